/- An evaluator of the program, and contracts over it: StJ to StaC. -/
import Derived.Laws.RangeString
import Derived.Laws.RangeAny
import Derived.Test.YtiiggfpadljcbaaGreatDoorP04
import Derived.Test.YtiiggfpadljcbaaGreatDoorP07
set_option linter.unusedSimpArgs false
set_option linter.unusedVariables false
set_option linter.constructorNameAsVariable false
set_option linter.unnecessarySimpa false
namespace Go.Ev.Lay
open Go.Ev.St
set_option maxRecDepth 4000
theorem Moved.kmt{h':Heap}{b S' n:Nat}{sl ol:List aS}{m:Nat→Option Nat}{c:Nat}(M:Moved sl ol ol.length)(sn:sl.length=n)(n8:8≤n)(nb:n≤20000)(ob:Own h' b [.slice S' 0 n n,.int .i64 (c:Int),.int .i64 0])(tb:Tb h' (.slice S' 0 n n) S' sl)
 (oc:cnS 1 ol=c) (mp:∀k x:Nat,m k=some x↔∃i:Nat,ol[i]? =some (1,k,x)):KmT h' b S' (.slice S' 0 n n) sl m c 0:=by
 refine⟨ob,tb,M.op,oM,oM,by rw[M.c1,List.take_length];exact oc,M.c2,fun k x=>(mp k x).trans ⟨fun⟨i,hi⟩=>(M.mp k x).2 ⟨i,(List.getElem?_eq_some_iff.1 hi).1,hi⟩,fun q=>?_⟩,M.kb⟩;let⟨j,_,hj⟩:=(M.mp k x).1 q;exact⟨j,hj⟩
theorem zD{h:Heap}{env:T V}{b S key x:Nat}{m:Nat→Option Nat}{c:Nat}{R:V→Heap→Prop}(w:WF h)(k:Km h b S m c)(hc:c<4096)(hk:key<18446744073709551616)(hx:x<4611686018427387904)(hm:m key=none)
 (g0:env.get 0=some (.ptr b 0)) (g1:env.get 1=some (.int .u64 (key:Int))) (g2:env.get 2=some (.int .i64 (x:Int)))
 (K:∀h' S',(S'=S∨h.next≤S')→Km h' b S' (i9 m key x) (c+1)→Fr [b,S] h h'→R (.int .i64 0) h'):W go CC env h (jg [.t 6] R):=by
 have fin:∀{h2:Heap}{env2:T V}{S':Nat}{v:V}{sl:List aS}{t:Nat},Fr [b] h h2→h.next≤S'→KmT h2 b S' v sl m c t→4*(c+t+1)≤3*sl.length→env2.get 0=some (.ptr b 0)→env2.get 1=some (.int .u64 (key:Int))→env2.get 2=some (.int .i64 (x:Int))→W go Fv env2 h2 (jg [.t 6] R):=by
  intro h2 env2 S' v sl t F hS k2 fill a0 a1 a2;refine zC F.wf k2 hk hx hm fill a0 a1 a2 fun h' sl' t' k' e1 e2 F'=>K h' S' (.inr hS) (.inr ⟨v,sl',t',k',oM⟩) ?_;exact F.trans F' w (fun x hx=>.inl (by simp at hx;simp[hx])) (fun x hx=>by
   simp at hx;obtain rfl|rfl:=hx;exact .inl iS;exact .inr hS)
 obtain⟨o,rfl,h1⟩|⟨v,sl,t,k,_⟩:=k;have l0:ag h b 0=some .nils:=o.ld1 0;have l1:ag h b 1=some (.int .i64 0):=o.ld1 1;have l2:ag h b 2=some (.int .i64 0):=o.ld1 2;simp(disch:=omega) only[evs,seval,DF,eff,ab,CC,g0,l0,l1,l2,(oM:¬(0:Int)=4096)];apply aa (vD (S:=b) (q:=1) (c:=0) (ol:=[]) w o (.inl ⟨rfl,rfl⟩) rfl rfl iS iS rfl iS oM oM oM);rintro _ h2 ⟨rfl,n,S',sl,hS,sn,n8,nb,q2,ob,tb,M,F⟩;simp only[evs];exact fin F hS (M.kmt sn n8 nb ob tb rfl (fun k x=>by rw[h1];simp)) oM iX iX iX;have cb:=k.sum;have nb:=k.nb;have l0:ag h b 0=some v:=k.ob.ld1 0;have l1:ag h b 1=some (.int .i64 (c:Int)):=k.ob.ld1 1;have l2:ag h b 2=some (.int .i64 (t:Int)):=k.ob.ld1 2;have len:=k.tb.recs.len;have c0:¬(c:Int)=4096:=oM;by_cases hf:3*(sl.length:Int)<4*((c:Int)+(t:Int)+1);simp(disch:=omega) only[evs,seval,DF,eff,ab,CC,g0,l0,l1,l2,len,c0,eq_true hf];have o1:v.one=true:=by obtain rfl|rfl:=k.tb.1<;>rfl
 apply aa (vD (S:=S) (q:=c+1) w k.ob (.inr ⟨k.tb,k.ne,k.tb.2.lt w⟩) o1 rfl nb k.op.uniq k.c1 k.kb oM oM oM);rintro _ h2 ⟨rfl,n,S',sl',hS,sn,n8,nb',q2,ob,tb,M,F⟩;simp only[evs];exact fin F hS (M.kmt sn n8 nb' ob tb k.c1 k.mp) oM iX iX iX;simp(disch:=omega) only[evs,seval,DF,eff,ab,CC,g0,l0,l1,l2,len,c0,eq_false hf];refine zC w k hk hx hm oM ?_ ?_ ?_ fun h' sl' t' k' e1 e2 F'=>K h' S (.inl rfl) (.inr ⟨v,sl',t',k',oM⟩) F';simp[g0];simp[g1];simp[g2]
theorem Gj{h:Heap}{b S key x:Nat}{m:Nat→Option Nat}{c:Nat}(w:WF h)(k:Km h b S m c)(hc:c<4096∨(m key).isSome=true)(k0:0<key)(hk:key<18446744073709551616)(hx:x<4611686018427387904):
 ao go 153 [.ptr b 0,.int .u64 (key:Int),.int .i64 (x:Int)] h fun u h'=>u=.int .i64 0∧∃S',(S'=S∨h.next≤S')∧Km h' b S' (i9 m key x) (if(m key).isSome=true then c else c+1)∧Fr [b,S] h h':=by
 have kz:¬(key:Int)=0:=oM;have k00:=k;refine ac ?_;obtain⟨o,rfl,h1⟩|⟨v,sl,t,k,fill⟩:=k;have l0:ag h b 0=some .nils:=o.ld1 0;simp only[evs,seval,kz,l0,(oM:¬(0:Int)<0)];refine zD w k00 oM hk hx (h1 key) ?_ ?_ ?_ fun h' S' a b c=>?_;simp;simp;simp;rw[h1];exact⟨rfl,S',a,b,c⟩;have l0:ag h b 0=some v:=k.ob.ld1 0;have len:=k.tb.recs.len;have n8:=k.n8;have nb:=k.nb;simp only[evs,seval,kz,l0,len,eq_true (oM:(0:Int)<(sl.length:Int))];refine aa (j4 w k.ob k.tb k.op oM hk) ?_;rintro _ h2 ⟨at',found,rfl,L,F⟩;cases found;have hm:m key=none:=by
  cases e:m key with
  |none=>rfl
  |some y=>let⟨i,hi⟩:=(k.mp key y).1 e;exact absurd hi ((L.no rfl).1 i y)
 rw[hm]at hc⊢;simp only[evs,seval];refine zD F.wf (k00.fr F) (eV hc) hk hx hm ?_ ?_ ?_ fun h' S' a b' c'=>⟨rfl,S',a.imp id (fun q=>Nat.le_trans F.next q),by simpa using b',F.trans c' w (fun x hx=>by simp at hx) (fun x hx=>.inl hx)⟩;simp;simp;simp;let⟨y,hy⟩:=L.yes rfl;have hm:=(k.mp key y).2 ⟨_,hy⟩;have k2:=k.fr F;have ix:=k2.tb.ix _ L.lt;have ne:=k2.ne;have l0':ag h2 b 0=some v:=k2.ob.ld1 0;rw[hm];simp only[evs,seval,l0',ix];apply ah (c':=(sl.set at' (1,key,x)).flatMap sc) F.wf k2.tb.2 rfl rfl (sX key y x sl at' hy);rintro h3 o3 F3 n3;simp only[evs,seval];have e1:=iT (c:=1) (x:=((1,key,x):aS)) hy;have e2:=iT (c:=2) (x:=((1,key,x):aS)) hy;simp at e1 e2;refine⟨S,.inl rfl,.inr ⟨v,sl.set at' (1,key,x),t,⟨F3.own b _ (eV ne) k2.ob,⟨by rw[List.length_set];exact k.tb.1,o3⟩,k.op.change hy x,by rw[List.length_set];exact n8,by rw[List.length_set];exact nb,by have:=k.c1;first|omega|(simp;omega),by have:=k.c2;omega,?_,k7 k.kb ⟨hk,hx⟩⟩,by rw[List.length_set];first|exact fill|simpa using fill⟩,?_⟩
 intro k' x';unfold i9;constructor;intro e;by_cases ck:k'=key;rw[if_pos ck]at e;cases e;subst ck;exact⟨at',iH _ L.lt⟩;rw[if_neg ck]at e;let⟨i,hi⟩:=(k.mp k' x').1 e;refine⟨i,?_⟩;rw[List.getElem?_set_ne];exact hi;rintro rfl;rw[hy]at hi;cases hi;exact ck rfl;rintro⟨i,hi⟩;obtain⟨_,e,_⟩|⟨ci,hj⟩:=fh _ _ _ _ _ hi;cases e;rw[if_pos rfl];have ck:k'≠key:=by rintro rfl;exact ci (k.op.uniq _ _ _ _ _ hj hy)
 rw[if_neg ck];exact(k.mp k' x').2 ⟨i,hj⟩;exact F.trans F3 w (fun x hx=>by simp at hx) (fun x hx=>.inl (by simp at hx;simp[hx]))
set_option maxRecDepth 4000
def TbC(e:Nat)(h:Heap)(v:V)(B:Nat)(C:List V)(N:Nat):Prop:=C.length=N*e∧((v=.nils∧N=0)∨(v=.slice B 0 N N∧Own h B C))
def Dst(e:Nat)(h:Heap)(B:Nat)(C:List V)(u:V)(o n:Nat):Prop:=o+n*e≤C.length∧((n=0∧(u=.nils∨∃b o c,u=.slice b o 0 c))∨∃cap,u=.slice B o n cap∧Own h B C)
variable {e : Nat} {h : Heap} {v u su : V} {B N : Nat} {C vs : List V}
theorem TbC.sl(a:TbC e h v B C N):Sl h e v N C:=by obtain⟨hl,⟨rfl,rfl⟩|⟨rfl,o⟩⟩:=a;exact⟨hl,rfl⟩;exact Sl.lit o hl
theorem TbC.one(a:TbC e h v B C N):v.one=true:=a.sl.one
theorem TbC.len(a:TbC e h v B C N):aP .lenS [v]=some (.int .i64 N):=a.sl.len
theorem TbC.fr{S:List Nat}{h':Heap}(a:TbC e h v B C N)(f:Fr S h h')(hB:B∉S):TbC e h' v B C N:=by obtain⟨hl,⟨rfl,rfl⟩|⟨rfl,o⟩⟩:=a;exact⟨hl,.inl ⟨rfl,rfl⟩⟩;exact⟨hl,.inr ⟨rfl,f.own _ _ hB o⟩⟩
theorem Sl.ones{h:Heap}{e:Nat}{v:V}{n:Nat}{cs:List V}(a:Sl h e v n cs)(b:Sl h e v n vs):cs=vs:=by have:=a.srcCells.symm.trans b.srcCells;exact Option.some.inj this
theorem TbC.part(a:TbC e h v B C N)(lo hi:Bool)(bs:List V)(l r:Nat)(hr:r≤N)(hl:l≤r)
 (hb:aU N N lo hi false bs=some (l,r,none)) (he:0<e):
 ∃v',aP (.sl none e lo hi false) (v::bs)=some v'∧Sl h e v' (r-l) ((C.drop (l*e)).take ((r-l) *e))∧Dst e h B C v' (l*e) (r-l):=by
 have hm:l*e+(r-l) *e≤C.length:=by rw[a.1,←Nat.add_mul];exact Nat.mul_le_mul_right _ oM
 obtain⟨hlen,⟨rfl,rfl⟩|⟨rfl,o⟩⟩:=a;have h0:l=0:=oM;have h1:r=0:=oM;subst h0 h1;refine⟨.nils,by simp only[aP,dZ,hb,Option.map_some],⟨iS,rfl⟩,⟨hm,.inl ⟨oM,.inl rfl⟩⟩⟩;refine⟨.slice B (bif Nat.beq N l then 0 else 0+l*e) (r-l) (N-l),by simp only[aP,dZ,hb,Option.map_some,Option.getD_none],⟨by simp;omega,rfl,oM,C,o,?_⟩,hm,?_⟩;by_cases c:N=l;have h0:r-l=0:=oM;rw[nO c,h0];simp;rw[ew c];simp only[cond_false,Nat.zero_add];exact⟨hm,trivial⟩;by_cases c:N=l;have h0:r-l=0:=oM;rw[nO c,h0];exact .inl ⟨rfl,.inr ⟨_,_,_,rfl⟩⟩;rw[ew c];simp only[cond_false,Nat.zero_add];exact .inr ⟨_,rfl,o⟩
theorem TbC.from(a:TbC e h v B C N)(he:0<e)(k:IntKind)(i:Int)(l:Nat)(hi:i=l)(hl:l≤N):
 ∃v',aP (.sl none e true false false) [v,.int k i]=some v'∧Sl h e v' (N-l) ((C.drop (l*e)).take ((N-l) *e))∧Dst e h B C v' (l*e) (N-l):=by
 subst hi;exact a.part true false [.int k l] l N (Nat.le_refl _) hl (by simp only[aU,bN k l N oM oM,Option.map_some,Int.toNat_natCast]) he
theorem TbC.upto(a:TbC e h v B C N)(he:0<e)(k:IntKind)(i:Int)(r:Nat)(hi:i=r)(hr:r≤N):
 ∃v',aP (.sl none e false true false) [v,.int k i]=some v'∧Sl h e v' r (C.take (r*e)):=by
 subst hi;let⟨v',a1,a2,_⟩:=a.part false true [.int k r] 0 r hr (Nat.zero_le _) (by simp only[aU,bN k r N oM oM,Option.map_some,Int.toNat_natCast]) he;exact⟨v',a1,by simpa using a2⟩
theorem TbC.range(a:TbC e h v B C N)(he:0<e)(k k':IntKind)(i j:Int)(l r:Nat)(hi:i=l)(hj:j=r)(hr:r≤N)(hl:l≤r):
 ∃v',aP (.sl none e true true false) [v,.int k i,.int k' j]=some v'∧Sl h e v' (r-l) ((C.drop (l*e)).take ((r-l) *e))∧Dst e h B C v' (l*e) (r-l):=by
 subst hi hj;exact a.part true true [.int k l,.int k' r] l r hr hl (by
  simp only[aU,bN k' r N oM oM,Option.bind_some,Int.toNat_natCast,bN k l r oM oM,Option.map_some]) he
theorem fP(z:List V)(n:Nat):(bq z n).length=n*z.length:=by
 induction n with
 |zero=>simp[fE]
 |succ n ih=>rw[ef,List.length_append,ih];rw[Nat.succ_mul];omega
theorem aN(a b:List V):au (a++b)=(au a&&au b):=by
 induction a with
 |nil=>simp[au]
 |cons x l ih=>rw[List.cons_append,av,av,ih,Bool.and_assoc]
theorem xU{a:List V}(n:Nat)(x:au a=true):au (a.take n)=true:=by rw[←List.take_append_drop n a,aN]at x;exact(Bool.and_eq_true _ _▸x).1
theorem kW{a:List V}(n:Nat)(x:au a=true):au (a.drop n)=true:=by rw[←List.take_append_drop n a,aN]at x;exact(Bool.and_eq_true _ _▸x).2
theorem xV{z:List V}(n:Nat)(x:au z=true):au (bq z n)=true:=by
 induction n with
 |zero=>rfl
 |succ n ih=>rw[ef,aN,x,ih];rfl
theorem Ja{o n:Nat}{z:List V}{K:V→Heap→Prop}(w:WF h)(d:Dst e h B C u o n)(hz:z.length=e)(h1:au z=true)(t:TbC e h v B C N)
 (k:∀h1,TbC e h1 v B (C.take o++bq z n++C.drop (o+n*e)) N→Fr [B] h h1→h1.next=h.next→K (.tup []) h1):OQ (yQ h z u) K:=by
 have ht:(C.take o++bq z n++C.drop (o+n*e)).length=N*e:=by have:=d.1;rw[←t.1];simp[fP,hz];omega
 unfold yQ OQ;obtain⟨rfl,q⟩|⟨cap,rfl,ow⟩:=d.2;have:K (.tup []) h:=k h (by simpa[fE]using t) (Fr.refl w) rfl;obtain rfl|⟨_,_,_,rfl⟩:=q;grind;exact⟨_,_,rfl,this⟩;by_cases c:n=0;subst c;exact⟨_,_,rfl,k h (by simpa[fE]using t) (Fr.refl w) rfl⟩;let⟨h',e1,o1,f1,n1⟩:=ip w ow (xV n h1) (dp C o (bq z n) (by rw[fP,hz];exact d.1));refine⟨_,h',?_,k h' ⟨ht,?_⟩ f1 n1⟩;simp only[ew c,cond_false,e1,Option.map_some];obtain⟨hl,⟨rfl,rfl⟩|⟨rfl,_⟩⟩:=t;grind;rw[fP,hz]at o1;exact .inr ⟨rfl,o1⟩
abbrev Z4:List V:=[.int .u64 0,.int .u8 0,.str [],.nils]
def NoI(l:List V):Prop:=∀x∈l,∀n:Int,x≠.int .i64 n
theorem NoI.sub{a b:List V}(h:NoI b)(s:∀x∈a,x∈b):NoI a:=fun x m=>h x (s x m)
theorem NoI.app{a b:List V}(h:NoI a)(g:NoI b):NoI (a++b):=fun x m=>(List.mem_append.1 m).elim (h x) (g x)
structure GpT(h:Heap)(b B:Nat)(v:V)(c1 G c2:List V)(a g m:Nat):Prop where
 ob:Own h b [v,.int .i64 (a:Int),.int .i64 (g:Int)]
 tb:TbC 4 h v B (c1++G++c2) (a+g+m)
 l1:c1.length=a*4
 lg:G.length=g*4
 l2:c2.length=m*4
 o1:au c1=true
 o2:au c2=true
 ne:B≠b
 nb:a+g+m≤8208
 am:a+m≤4096
 n6:NoI (c1++G++c2)
def Gp(h:Heap)(b B:Nat)(n:Nat)(l:List V):Prop:=∃v c1 G c2 a g m,GpT h b B v c1 G c2 a g m∧l=c1++c2∧n=a+m
variable {h : Heap} {b B : Nat} {v : V} {c1 G c2 : List V} {a g m : Nat}
theorem GpT.fr{h':Heap}(k:GpT h b B v c1 G c2 a g m){S:List Nat}(f:Fr S h h')(hb:b∉S)(hB:B∉S):GpT h' b B v c1 G c2 a g m:=
 ⟨f.own _ _ hb k.ob,k.tb.fr f hB,k.l1,k.lg,k.l2,k.o1,k.o2,k.ne,k.nb,k.am,k.n6⟩
theorem Gp.fr{h':Heap}{n:Nat}{l:List V}(k:Gp h b B n l){S:List Nat}(f:Fr S h h')(hb:b∉S)(hB:B∉S):Gp h' b B n l:=by let⟨v,c1,G,c2,a,g,m,k,e⟩:=k;exact⟨v,c1,G,c2,a,g,m,k.fr f hb hB,e⟩
theorem Gp.len{n:Nat}{l:List V}(k:Gp h b B n l):l.length=n*4∧n≤4096∧au l=true:=by obtain⟨v,c1,G,c2,a,g,m,k,rfl,rfl⟩:=k;have:=k.l1;have:=k.l2;have:=k.am;exact⟨by simp;omega,oM,by rw[aN,k.o1,k.o2];rfl⟩
theorem It{α:Type}(c1 G c2:List α)(a g i k:Nat)(l1:c1.length=a*k)(lg:G.length=g*k):
 ((c1++G++c2).drop ((if a≤i then i+g else i) *k)).take k=((c1++c2).drop (i*k)).take k:=by
 by_cases c:a≤i;rw[if_pos c];obtain⟨j,rfl⟩:∃j,i=a+j:=⟨i-a,oM⟩;have e1:(a+j+g) *k=(c1++G).length+j*k:=by grind
 have e2:(a+j) *k=c1.length+j*k:=by rw[l1,Nat.add_mul]
 rw[e1,e2,List.drop_length_add_append,List.drop_length_add_append];rw[if_neg c];have e:i*k+k≤c1.length:=by rw[l1,←Nat.succ_mul];exact Nat.mul_le_mul_right _ oM
 rw[List.append_assoc,List.drop_append_of_le_length oM,List.take_append_of_le_length oO,List.drop_append_of_le_length oM,List.take_append_of_le_length oO]
theorem GpT.at'(k:GpT h b B v c1 G c2 a g m){i:Nat}(hi:i<a+m):
 aP (.ixs 4) [v,.int .i64 ((if a≤i then i+g else i:Nat):Int)]=some (.ptr B ((if a≤i then i+g else i) *4))∧ai h B ((if a≤i then i+g else i) *4) 4=some (((c1++c2).drop (i*4)).take 4):=by
 have hp:(if a≤i then i+g else i)<a+g+m:=by split<;>omega
 obtain⟨hl,⟨rfl,z⟩|⟨rfl,o⟩⟩:=k.tb;omega;refine⟨?_,?_⟩;rw[cL _ _ _ _ _ _ _ oM oM];simp;rw[o.ld,bS,bP,It c1 G c2 a g i 4 k.l1 k.lg];simp only[List.length_drop,hl];omega
variable {h : Heap} {b B : Nat} {v : V} {c1 G c2 : List V} {a g m : Nat}
theorem NoI.rep{z:List V}(h:NoI z):∀n,NoI (bq z n)
 |0=>by rw[fE];intro x m;simp at m
 |n+1=>by rw[ef];exact h.app (NoI.rep h n)
theorem NoI.z4:NoI Z4:=by intro x m n;simp at m;obtain rfl|rfl|rfl|rfl:=m<;>simp
variable {h : Heap} {b B : Nat} {v : V} {c1 G c2 : List V} {a g m : Nat}
theorem TbC.fr'{e:Nat}{h h':Heap}{v:V}{B N:Nat}{C:List V}{S:List Nat}(a:TbC e h v B C N)(f:Fr S h h')(hB:v=.nils∨B∉S):TbC e h' v B C N:=by obtain⟨hl,⟨rfl,rfl⟩|⟨rfl,o⟩⟩:=a;exact⟨hl,.inl ⟨rfl,rfl⟩⟩;obtain q|q:=hB;cases q;exact⟨hl,.inr ⟨rfl,f.own _ _ q o⟩⟩
variable {h : Heap} {b B : Nat}
theorem Fr.new{h h1 h2:Heap}{S:List Nat}(w:WF h)(f1:Fr [] h h1)(f2:Fr S h1 h2)(hs:∀x∈S,h.next≤x):Fr [] h h2:=
 Fr.trans f1 f2 w (fun x hx=>.inl hx) (fun x hx=>.inr (hs x hx))
end Go.Ev.Lay
namespace Go.Ev
variable {call : aD}
theorem WF.hnew{h:Heap}(w:WF h)(k:Blk):WF (hnew h k):=by intro p hp;have hp':h.next+1≤p:=hp;have:=w p oM;exact⟨by show(h.bl.set _ _).get p=none;rw[T.get_set_ne _ _ oM];exact this.1,this.2⟩
theorem Fr.hnew{h:Heap}(w:WF h)(k:Blk):Fr [] h (hnew h k) where
 next:=Nat.le_succ _
 wf:=w.hnew k
 own:=fun b c _ o=>by have:=o.lt w;let⟨f,k',e,x⟩:=o;exact⟨f,k',by show(h.bl.set _ _).get b=_;rw[T.get_set_ne _ _ oM];exact e,x⟩
 pl:=fun b c _ o=>by have:=o.own.lt w;let⟨⟨k',e⟩,f⟩:=o;exact⟨⟨k',by show(h.bl.set _ _).get b=_;rw[T.get_set_ne _ _ oM];exact e⟩,f⟩
 lp:=fun b x _ e=>by
  have:b≠h.next:=by rintro rfl;rw[(w _ (Nat.le_refl _)).1]at e;cases e
  show(h.bl.set _ _).get b=_;rw[T.get_set_ne _ _ this];exact e
 ro:=fun b c r=>r.new w _
structure FrB(S:List Nat)(B:Nat)(h h':Heap):Prop where
 next:h.next≤h'.next
 wf:WF h'
 own:∀b c,b∉S→Own h b c→Own h' b c
 pl:∀b c,b∉S→Pl h b c→Pl h' b c
 lp:∀b x,b≠B→Gu x=true→h.bl.get b=some x→h'.bl.get b=some x
 ro:∀b c,Rs h b c→Rs h' b c
theorem Fr.b{S S':List Nat}{h h':Heap}{B:Nat}(f:Fr S' h h')(hs:∀x∈S',x∈S):FrB S B h h':=⟨f.next,f.wf,fun b c hb o=>f.own b c (fun q=>hb (hs b q)) o,fun b c hb o=>f.pl b c (fun q=>hb (hs b q)) o,fun b x _ hx e=>f.lp b x hx e,f.ro⟩
theorem FrB.trans{S:List Nat}{h h1 h2:Heap}{B:Nat}(a:FrB S B h h1)(b:FrB S B h1 h2):FrB S B h h2:=
 ⟨Nat.le_trans a.next b.next,b.wf,fun x c hx o=>b.own x c hx (a.own x c hx o),fun x c hx o=>b.pl x c hx (a.pl x c hx o),fun x k hx hk o=>b.lp x k hx hk (a.lp x k hx hk o),fun x c r=>b.ro x c (a.ro x c r)⟩
theorem FrB.hset{S:List Nat}{h:Heap}(w:WF h){B:Nat}{x:Blk}(e:h.bl.get B=some x)(hx:Gu x=true)(k:Blk):FrB S B h (hset h B k):=by
 have hB:B<h.next:=by obtain q|q:=Nat.lt_or_ge B h.next;exact q;rw[(w B q).1]at e;cases e
 refine⟨Nat.le_refl _,?_,?_,?_,?_,?_⟩;intro p hp;have hp':h.next≤p:=hp;have:=w p hp';exact⟨by show(h.bl.set _ _).get p=none;rw[T.get_set_ne _ _ oM];exact this.1,this.2⟩;rintro b c _ ⟨f,k',e',y⟩;have:b≠B:=by rintro rfl;rw[e]at e';cases e';cases hx
 exact⟨f,k',by show(h.bl.set _ _).get b=_;rw[T.get_set_ne _ _ this];exact e',y⟩;rintro b c _ ⟨⟨k',e'⟩,y⟩;have:b≠B:=by rintro rfl;rw[e]at e';cases e';cases hx
 exact⟨⟨k',by show(h.bl.set _ _).get b=_;rw[T.get_set_ne _ _ this];exact e'⟩,y⟩;intro b y hb hy e';show(h.bl.set _ _).get b=_;rw[T.get_set_ne _ _ hb];exact e';rintro b c ⟨f,k',ow,e1,e2,e3,e4⟩;have h1:b≠B:=by rintro rfl;rw[e]at e1;cases e1;cases hx
 have h2:ow≠B:=by grind
 exact⟨f,k',ow,by show(h.bl.set _ _).get b=_;rw[T.get_set_ne _ _ h1];exact e1,e2,by show(h.bl.set _ _).get ow=_;rw[T.get_set_ne _ _ h2];exact e3,e4⟩
theorem FrB.fr{S:List Nat}{B:Nat}{h h1 h2:Heap}(w:WF h)(f:Fr [] h h1)(a:FrB S B h1 h2)(hs:∀x∈S,h.next≤x)(hB:h.next≤B):Fr [] h h2:=
 ⟨Nat.le_trans f.next a.next,a.wf,fun b c _ o=>a.own b c (fun q=>by have:=hs b q;have:=o.lt w;omega) (f.get o),fun b c _ o=>a.pl b c (fun q=>by have:=hs b q;have:=o.own.lt w;omega) (f.pl b c iS o),
  fun b x hx e=>a.lp b x (by rintro rfl;rw[(w _ hB).1]at e;cases e) hx (f.lp b x hx e),fun b c r=>a.ro b c (f.ro b c r)⟩
theorem Di(h:Heap)(B:Nat)(k:Blk):(hset h B k).bl.get B=some k:=T.get_set_self _ _ _
theorem wE(h:Heap)(k:Blk):(hnew h k).bl.get h.next=some k:=T.get_set_self _ _ _
def Rdb(h:Heap)(b:Nat)(c:List V):Prop:=Own h b c∨Rs h b c
theorem Rdb.cells{h:Heap}{b:Nat}{c:List V}(a:Rdb h b c):dy h b=some c:=by obtain o|⟨f,k,ow,e1,e2,_⟩:=a;exact o.cells;simp only[dy,e1,rd,e2,Nat.beq_refl,Bool.or_true];rfl
theorem Rdb.ld1{h:Heap}{b:Nat}{c:List V}(a:Rdb h b c)(o:Nat):ag h b o=nth c o:=by simp only[ag,a.cells]
theorem Rdb.ld{h:Heap}{b:Nat}{c:List V}(a:Rdb h b c)(o n:Nat):ai h b o n=c9 n (fc c o):=by simp only[ai,a.cells]
def ASl(h:Heap)(esz:Nat)(v:V)(n:Nat)(cs:List V):Prop:=
 cs.length=n*esz∧match v with
 |.nils=>n=0
 |.sliceE=>n=0
 |.sliceZ _ _=>n=0
 |.slice b o len cap=>len=n∧n≤cap∧∃c,Rdb h b c∧o+n*esz≤c.length∧cs=(c.drop o).take (n*esz)
 |.sliceU b o len e=>len=n∧e=esz∧∃c,Rdb h b c∧o+n*esz≤c.length∧cs=(c.drop o).take (n*esz)
 |_=>False
theorem Sl.a{h:Heap}{esz:Nat}{v:V}{n:Nat}{cs:List V}(a:Sl h esz v n cs):ASl h esz v n cs:=by
 let⟨hl,a⟩:=a;refine⟨hl,?_⟩;cases v with
 |slice b o l k=>let⟨h1,h2,c,o,x⟩:=a;exact⟨h1,h2,c,.inl o,x⟩
 |sliceU b o l k=>let⟨h1,h2,c,o,x⟩:=a;exact⟨h1,h2,c,.inl o,x⟩
 |sliceZ _ _=>exact a.elim
 |_=>exact a
theorem ASl.map{h h':Heap}{esz:Nat}{v:V}{n:Nat}{cs:List V}(a:ASl h esz v n cs)(f:∀b c,Rdb h b c→(cs≠[]→∃x∈cs,x∈c)→Rdb h' b c):ASl h' esz v n cs:=by
 let⟨hl,a⟩:=a;refine⟨hl,?_⟩;have key:∀(o:Nat)(c:List V),cs=(c.drop o).take (n*esz)→cs≠[]→∃x∈cs,x∈c:=by intro o c e hne;let⟨x,hx⟩:=List.exists_mem_of_ne_nil cs hne;exact⟨x,hx,List.mem_of_mem_drop (List.mem_of_mem_take (e▸hx))⟩
 cases v with
 |slice b o l k=>let⟨h1,h2,c,oc,x1,x2⟩:=a;exact⟨h1,h2,c,f b c oc (key o c x2),x1,x2⟩
 |sliceU b o l k=>let⟨h1,h2,c,oc,x1,x2⟩:=a;exact⟨h1,h2,c,f b c oc (key o c x2),x1,x2⟩
 |_=>exact a
theorem ASl.fr{h h':Heap}{esz:Nat}{v:V}{n:Nat}{cs:List V}(a:ASl h esz v n cs)(f:Fr [] h h'):ASl h' esz v n cs:=a.map fun b c r _=>r.imp (fun o=>f.get o) (f.ro b c)
theorem ASl.len{h:Heap}{esz:Nat}{v:V}{n:Nat}{cs:List V}(a:ASl h esz v n cs):aP .lenS [v]=some (.int .i64 n):=by
 let⟨hl,a⟩:=a;cases v with
 |slice b o l k=>obtain⟨rfl,_⟩:=a;rfl
 |sliceU b o l k=>obtain⟨rfl,_⟩:=a;rfl
 |nils=>have a:n=0:=a;subst a;rfl
 |sliceE=>have a:n=0:=a;subst a;rfl
 |sliceZ _ _=>have a:n=0:=a;subst a;rfl
 |_=>exact a.elim
theorem ASl.one{h:Heap}{esz:Nat}{v:V}{n:Nat}{cs:List V}(a:ASl h esz v n cs):v.one=true:=by
 let⟨hl,a⟩:=a;cases v with
 |slice b o l k=>rfl
 |sliceU b o l k=>rfl
 |nils=>rfl
 |sliceE=>rfl
 |sliceZ _ _=>rfl
 |_=>exact a.elim
theorem ASl.ix{h:Heap}{esz:Nat}{v:V}{n:Nat}{cs:List V}(a:ASl h esz v n cs)(k:IntKind)(i:Int)(h0:0≤i)(h1:i<n):
 ∃b o,aP (.ixs esz) [v,.int k i]=some (.ptr b o)∧(∀j,j<esz→ag h b (o+j)=cs[i.toNat*esz+j]?)∧ai h b o esz=some ((cs.drop (i.toNat*esz)).take esz):=by
 let⟨hl,a⟩:=a;obtain⟨m,rfl⟩:∃m:Nat,i=m:=⟨i.toNat,oM⟩;have hm:m<n:=oM;have hmul:m*esz+esz≤n*esz:=by rw[←Nat.succ_mul];exact Nat.mul_le_mul_right _ hm
 have main:∀(b o:Nat)(c:List V),Rdb h b c→o+n*esz≤c.length→cs=(c.drop o).take (n*esz)→
  (∀j,j<esz→ag h b (o+m*esz+j)=cs[m*esz+j]?)∧ai h b (o+m*esz) esz=some ((cs.drop (m*esz)).take esz):=by
  intro b o c hc hlen e;subst e;constructor;intro j hj;rw[hc.ld1,dL,List.getElem?_take,if_pos oM,List.getElem?_drop];congr 1;omega;rw[hc.ld,bS,bP _ _ oO,List.drop_take,List.drop_drop,List.take_take];congr 2;omega
 cases v with
 |slice b o l q=>obtain⟨rfl,_,c,hc,hlen,e⟩:=a;exact⟨b,o+m*esz,cL _ _ _ _ _ _ _ h0 h1,main b o c hc hlen e⟩
 |sliceU b o l q=>obtain⟨rfl,rfl,c,hc,hlen,e⟩:=a;exact⟨b,o+m*q,q8 _ _ _ _ _ _ _ h0 h1,main b o c hc hlen e⟩
 |nils=>have a:n=0:=a;omega
 |sliceE=>have a:n=0:=a;omega
 |sliceZ _ _=>have a:n=0:=a;omega
 |_=>exact a.elim
section
variable {α : Type} {f : α → List V} {k : Nat}
def ARecs(f:α→List V)(k:Nat)(h:Heap)(v:V)(L:List α):Prop:=ASl h k v L.length (L.flatMap f)
theorem Recs.a{h:Heap}{v:V}{L:List α}(a:Recs f k h v L):ARecs f k h v L:=Sl.a a
theorem ARecs.fr{h h':Heap}{v:V}{L:List α}(a:ARecs f k h v L)(r:Fr [] h h'):ARecs f k h' v L:=ASl.fr a r
theorem ARecs.len{h:Heap}{v:V}{L:List α}(a:ARecs f k h v L):aP .lenS [v]=some (.int .i64 L.length):=ASl.len a
theorem ARecs.one{h:Heap}{v:V}{L:List α}(a:ARecs f k h v L):v.one=true:=ASl.one a
theorem ARecs.ix{h:Heap}{v:V}{L:List α}(hf:∀x,(f x).length=k)(a:ARecs f k h v L)(kd:IntKind)(i:Int)(h0:0≤i)(h1:i<L.length):
 ∃b o x,aP (.ixs k) [v,.int kd i]=some (.ptr b o)∧(∀j,j<k→ag h b (o+j)=(f x)[j]?)∧ai h b o k=some (f x)∧L[i.toNat]? =some x:=by
 let⟨b,o,e,g,g2⟩:=ASl.ix a kd i h0 h1;have hi:i.toNat<L.length:=oM;have e3:L[i.toNat]? =some L[i.toNat]:=by simp[hi]
 have ed:L.drop i.toNat=L[i.toNat]::L.drop (i.toNat+1):=List.drop_eq_getElem_cons hi;refine⟨b,o,L[i.toNat],e,fun j hj=>?_,?_,e3⟩;rw[g j hj,←List.getElem?_drop,eg hf,ed,List.flatMap_cons,List.getElem?_append_left (by rw[hf];exact hj)];rw[g2,eg hf,ed,List.flatMap_cons];have:=hf L[i.toNat];rw[List.take_append,List.take_of_length_le oM,this];simp
end
end Go.Ev
namespace Go.Ev.Lay
set_option maxRecDepth 4000
def ItQ(h:Heap)(nx:Bool)(o:Option V)(K:V→Heap→Prop):Prop:=∃d,o=some d∧OQ (ait h nx d) K
theorem rA{h:Heap}(nx:Bool)(d:V)(K:V→Heap→Prop):ItQ h nx (some d) K↔OQ (ait h nx d) K:=
 ⟨fun⟨_,e,k⟩=>by cases e;exact k,fun k=>⟨d,rfl,k⟩⟩
theorem CH{call:aD}{loc:List V}{env:T V}{h:Heap}(nx:Bool)(x:Opd)(K:V→Heap→Prop):OQ (aL call loc env h (.it nx x)) K↔ItQ h nx (evO loc env x) K:=by
 simp only[aL,OQ,ItQ];cases evO loc env x with
 |none=>simp
 |some d=>simp
theorem IX{h:Heap}(z:List UInt8)(K:V→Heap→Prop):OQ (ait h false (.str z)) K↔K (.ptr h.next 0) (hnew h (.si z 0)):=bY _ _ _
theorem IY{h:Heap}{b pos:Nat}{z:List UInt8}(hb:h.bl.get b=some (.si z pos))(hp:¬pos<z.length)(K:V→Heap→Prop):OQ (ait h true (.ptr b 0)) K↔K (.tup [.bool false]) h:=by
 show OQ (match h.bl.get b with|some (.si z pos)=>_|_=>_) K↔_
 rw[hb];simp only[if_neg hp];exact bY _ _ _
theorem Gt{h:Heap}{b pos:Nat}{z:List UInt8}(hb:h.bl.get b=some (.si z pos))(hp:pos<z.length)(K:V→Heap→Prop):OQ (ait h true (.ptr b 0)) K↔
 K (.tup [.bool true,.int .i64 (pos:Int),.int .i32 ((Utf8.decode ⟨z.toArray⟩ pos).1:Int)]) (hset h b (.si z (pos+(Utf8.decode ⟨z.toArray⟩ pos).2))):=by
 show OQ (match h.bl.get b with|some (.si z pos)=>_|_=>_) K↔_
 rw[hb];simp only[if_pos hp];exact bY _ _ _
theorem _root_.Go.Ev.WF.hset{h:Heap}(w:WF h){b:Nat}{x:Blk}(hb:h.bl.get b=some x)(y:Blk):WF (hset h b y):=by intro p hp;let⟨q1,q2⟩:=w p hp;refine⟨?_,q2⟩;show(h.bl.set b y).get p=none;rw[T.get_set,if_neg (by rintro rfl;rw[hb]at q1;cases q1)];exact q1
theorem Fr.si{h:Heap}(w:WF h){b pos pos':Nat}{z:List UInt8}(hb:h.bl.get b=some (.si z pos)):Fr [] h (hset h b (.si z pos')) where
 next:=Nat.le_refl _
 wf:=WF.hset w hb _
 own:=fun x c _ ⟨f,k,e,q⟩=>⟨f,k,by
  show(h.bl.set b _).get x=_;rw[T.get_set,if_neg (by rintro rfl;rw[hb]at e;cases e)];exact e,q⟩
 pl:=fun x c _ ⟨⟨k,e⟩,q⟩=>⟨⟨k,by
  show(h.bl.set b _).get x=_;rw[T.get_set,if_neg (by rintro rfl;rw[hb]at e;cases e)];exact e⟩,q⟩
 lp:=fun x k hk e=>by show(h.bl.set b _).get x=_;rw[T.get_set,if_neg (by rintro rfl;rw[hb]at e;cases e;cases hk)];exact e
 ro:=fun x c ⟨f,k,ow,e,q1,q2,q3⟩=>⟨f,k,ow,by
  show(h.bl.set b _).get x=_;rw[T.get_set,if_neg (by rintro rfl;rw[hb]at e;cases e)];exact e,q1,by
  show(h.bl.set b _).get ow=_;rw[T.get_set,if_neg (by rintro rfl;rw[hb]at q2;cases q2)];exact q2,q3⟩
def EC(g:Nat)(p:Int→Bool):Prop:=g<1099511627776∧(∀(r:Int)(h:Heap),ao go g [.int .i32 r] h fun u h'=>u=.bool (p r)∧h=h')∧∀r:Int,128≤r→p r=true
def dP(p:Int→Bool)(z:List UInt8):Bool:=z.any fun b=>p (b.toNat:Int)
theorem I9(z:List UInt8)(pos:Nat)(hp:pos<z.length)(p:Int→Bool)(h128:∀r:Int,128≤r→p r=true):
 (p ((Utf8.decode ⟨z.toArray⟩ pos).1:Int)=p ((z[pos]).toNat:Int))∧(p ((z[pos]).toNat:Int)=false→(Utf8.decode ⟨z.toArray⟩ pos).2=1):=by
 have hs:pos<(ByteArray.mk z.toArray).size:=hp;have he:(ByteArray.mk z.toArray)[pos]'hs=z[pos]:=rfl;by_cases c:(z[pos]).toNat<128;have:=Go.decode_ascii ⟨z.toArray⟩ pos hs (by rw[he];exact c);rw[this,he];exact⟨rfl,fun _=>rfl⟩;have:=Go.decode_high ⟨z.toArray⟩ pos hs (by rw[he];omega);rw[h128 _ oM,h128 _ oM];exact⟨rfl,fun e=>by cases e⟩
theorem sT{h:Heap}{z:List UInt8}{g:Nat}{p:Int→Bool}(w:WF h)(P:EC g p)(hz:z.length<16777216):
 ao go 199 [.str z,.func (.func g) [] [],.bool true] h fun u h'=>∃r:Int,u=.int .i64 r∧(decide (0≤r)=dP p z)∧Fr [] h h':=by
 let⟨hg,hp,h128⟩:=P;obtain⟨h1,e_h1⟩:∃h1,h1=hnew h (.si z 0):=⟨_,rfl⟩;have F_h1:Fr [] h h1:=e_h1▸Fr.hnew w _;have b1:h1.bl.get h.next=some (.si z 0):=by rw[e_h1];exact wE _ _
 refine ac ?_;simp only[evs,seval,CH,rA,IX,←e_h1];refine az (fun k env hh=>Fr [] h hh∧∃(i:Nat),env.get 10=some (.ptr h.next 0)∧env.get 1=some (.func (.func g) [] [])∧env.get 2=some (.bool true)∧hh.bl.get h.next=some (.si z i)∧
  i≤z.length∧dP p (z.drop i)=dP p z∧k=z.length-i) z.length oM ?_ ?_
 ·exact⟨F_h1,0,iS,iS,iS,b1,oM,rfl,rfl⟩
 ·rintro k env hh ⟨F,i,g10,g1,g2,bb,hi,e,rfl⟩;by_cases hlt:i<z.length
  ·have⟨d1,d2⟩:=I9 z i hlt p h128;have F1:Fr [] hh (hset hh h.next (.si z (i+(Utf8.decode ⟨z.toArray⟩ i).2))):=Fr.si F.wf bb;have b2:=Di hh h.next (.si z (i+(Utf8.decode ⟨z.toArray⟩ i).2));rw[List.drop_eq_getElem_cons hlt]at e;simp only[evs,seval,g10,g1,CH,rA,Gt bb hlt,hg];refine aa (hp _ _) ?_;rintro _ h2 ⟨rfl,rfl⟩;cases c:p ((z[i]).toNat:Int)
   ·have w1:=d2 c;rw[c]at d1;rw[w1]at F1 b2⊢;simp only[evs,seval,d1,g2];unfold dP at e;rw[List.any_cons,c,Bool.false_or]at e;refine rqn ⟨z.length-(i+1),oM,F.then F1,i+1,iX,iX,iX,b2,oM,e,rfl⟩
    done
   ·rw[c]at d1;simp only[evs,seval,d1,g2];unfold dP at e⊢;rw[List.any_cons,c,Bool.true_or]at e;exact⟨i,rfl,by rw[←e];simp,F.then F1⟩
  ·simp only[evs,seval,g10,CH,rA,IY bb hlt];rw[List.drop_of_length_le oM]at e;exact⟨-1,rfl,by rw[←e];rfl,F⟩
theorem oQ{h:Heap}{z:List UInt8}{g:Nat}{p:Int→Bool}(w:WF h)(P:EC g p)(hz:z.length<16777216):
 ao go 145 [.str z,.func (.func g) [] []] h fun u h'=>u=.bool (dP p z)∧Fr [] h h':=by
 refine ac ?_;simp only[evs,seval];refine aa (?_:ao go 177 _ _ (fun u h'=>∃r:Int,u=.int .i64 r∧(decide (0≤r)=dP p z)∧Fr [] h h')) ?_;refine ac ?_;simp only[evs,seval];refine aa (sT w P hz) ?_;rintro _ h1 ⟨r,rfl,e,F⟩;simp only[evs,seval];exact⟨r,rfl,e,F⟩;rintro _ h1 ⟨r,rfl,e,F⟩;simp only[evs,seval];exact⟨by rw[e],F⟩
def gy(r:Int):Bool:=decide (r<32)||decide (126<r)
def cJ(r:Int):Bool:=(decide (r<97)||decide (122<r))&&(decide (r<48)||decide (57<r))
theorem Lf:EC 146 gy:=⟨dI,fun r h=>by
 by_cases c:r<32;refine ac ?_;simp only[evs,seval,c];simp[gy,c];refine ac ?_;simp only[evs,seval,c];simp[gy,c],fun r hr=>by simp[gy];omega⟩
theorem Ld:EC 179 cJ:=⟨dI,fun r h=>by
 by_cases c:r<97;by_cases d:r<48;refine ac ?_;simp only[evs,seval,c,d];simp[cJ,c,d];refine ac ?_;simp only[evs,seval,c,d];simp[cJ,c,d];by_cases c':(122:Int)<r;by_cases d:r<48;omega;refine ac ?_;simp only[evs,seval,c,d,c'];simp[cJ,c,d,c'];refine ac ?_;simp only[evs,seval,c,c'];simp[cJ,c,c'],fun r hr=>by simp[cJ];omega⟩
def okT(z:List UInt8):Bool:=decide (z.length≤64)&& !dP gy z
def okN(z:List UInt8):Bool:=decide (0<z.length)&&(decide (z.length≤16)&& !dP cJ z)
theorem aE(a:List UInt8):aP .lenStr [.str a]=some (.int .i64 (a.length:Nat)):=rfl
theorem aV(a b:List UInt8):aP (.sb .neq) [.str a,.str b]=some (.bool (!(a==b))):=rfl
theorem aJ(a b:List UInt8):aP (.sb .eql) [.str a,.str b]=some (.bool (a==b)):=rfl
theorem jO(z:List UInt8):(z==[])=decide (z.length=0):=by cases z<;>rfl
theorem FP{h:Heap}{z:List UInt8}(w:WF h):ao go 150 [.str z] h fun u h'=>u=.bool (okN z)∧Fr [] h h':=by by_cases c0:z.length=0;refine ac ?_;simp only[evs,seval,aV,jO,c0];exact⟨by simp[okN,c0],Fr.refl w⟩;by_cases c1:z.length≤16;refine ac ?_;simp only[evs,seval,aE,aV,jO,c0,(oM:(z.length:Int)≤16)];refine aa (oQ w Ld oM) ?_;rintro _ h1 ⟨rfl,F⟩;simp only[evs,seval];exact⟨by simp[okN,c1];intro _;omega,F⟩;refine ac ?_;simp only[evs,seval,aE,aV,jO,c0,(oM:¬(z.length:Int)≤16)];exact⟨by simp[okN,c1],Fr.refl w⟩
abbrev sS(s:List UInt8):List V:=[.str s]
theorem fM(s:List UInt8):(sS s).length=1:=rfl
theorem CS{h:Heap}{z:List UInt8}(w:WF h):ao go 149 [.str z] h fun u h'=>u=.bool (!okN z)∧Fr [] h h':=by refine ac ?_;simp only[evs,seval];refine aa (FP w) ?_;rintro _ h1 ⟨rfl,F⟩;simp only[evs,seval];exact F
def Hx(g:Nat):Prop:=g<1099511627776∧∀(z:List UInt8)(h:Heap),WF h→ao go g [.str z] h fun u h'=>u=.bool (!okN z)∧Fr [] h h'
theorem Lh:Hx 149:=⟨dI,fun _ _ w=>CS w⟩
theorem Bi{h:Heap}{v:V}{g:Nat}{L:List (List UInt8)}(P:Hx g)(w:WF h)(a:ARecs sS 1 h v L)(hn:L.length≤4096):
 ao go 178 [v,.func (.func g) [] []] h fun u h'=>∃r:Int,u=.int .i64 r∧(decide (0≤r)= !L.all okN)∧Fr [] h h':=by
 refine ac ?_;simp only[evs,seval,a.len];refine az (fun k env hh=>Fr [] h hh∧∃(i:Nat),env.get 8=some (.int .i64 i)∧env.get 7=some (.int .i64 L.length)∧env.get 0=some v∧env.get 1=some (.func (.func g) [] [])∧
  i≤L.length∧(L.drop i).all okN=L.all okN∧k=L.length-i) L.length oM ?_ ?_
 ·exact⟨Fr.refl w,0,iS,iS,iS,iS,oM,rfl,rfl⟩
 ·rintro k env hh ⟨F,i,g8,g7,g0,g1,hi,e,rfl⟩;by_cases hlt:i<L.length
  ·have hlt':(i:Int)<L.length:=oM
   let⟨b,o,s,e1,e2,_,e5⟩:=(a.fr F).ix fM .i64 i oM hlt';have e4:ag hh b o=some (.str s):=e2 0 oM;rw[Int.toNat_natCast]at e5;rw[aK e5,List.all_cons]at e;simp only[evs,seval,g8,g7,g0,g1,hlt',e1,e4,P.1];refine aa (P.2 _ _ F.wf) ?_;rintro _ h1 ⟨rfl,F1⟩;cases c:okN s
   ·simp only[evs,seval];rw[c]at e;exact⟨i,rfl,by rw[←e];simp,F.then F1⟩
   ·simp(disch:=omega) only[evs,seval,ab,g8];rw[c]at e;refine rqn ⟨L.length-(i+1),oM,F.then F1,i+1,iS,iX,iX,iX,oM,by simpa using e,rfl⟩
    done
  ·simp only[evs,seval,g8,g7,(oM:¬(i:Int)<L.length)];rw[List.drop_of_length_le oM]at e;exact⟨-1,rfl,by rw[←e];rfl,F⟩
theorem mF{h:Heap}{v:V}{g:Nat}{L:List (List UInt8)}(P:Hx g)(w:WF h)(a:ARecs sS 1 h v L)(hn:L.length≤4096):
 ao go 148 [v,.func (.func g) [] []] h fun u h'=>u=.bool (!L.all okN)∧Fr [] h h':=by
 refine ac ?_;simp only[evs,seval];refine aa (Bi P w a hn) ?_;rintro _ h1 ⟨r,rfl,e,F⟩;simp only[evs,seval];exact⟨by rw[e],F⟩
structure Itm where
 key:Nat
 type:Nat
 text:List UInt8
 marks:List (List UInt8)
 vm:V
def Itm.cells(x:Itm):List V:=[.int .u64 (x.key:Int),.int .u8 (x.type:Int),.str x.text,x.vm]
structure ItmH(h:Heap)(x:Itm):Prop where
 k:x.key<18446744073709551616
 t:x.type<256
 m:ARecs sS 1 h x.vm x.marks
 n:x.marks.length≤4096
 l:x.text.length<16777216
theorem ItmH.fr{h h':Heap}{x:Itm}(a:ItmH h x)(f:Fr [] h h'):ItmH h' x:=⟨a.k,a.t,a.m.fr f,a.n,a.l⟩
theorem ItmH.one{h:Heap}{x:Itm}(a:ItmH h x):au x.cells=true:=by show au [.int .u64 (x.key:Int),.int .u8 (x.type:Int),.str x.text,x.vm]=true;simp only[av,aF,a.m.one];rfl
def okM(ms:List (List UInt8)):Bool:=decide (ms.length≤8)&&ms.all okN
def okI(x:Itm)(types:Nat):Bool:=decide (x.key≠0)&&(decide (x.type<types)&&(okT x.text&&okM x.marks))
theorem E6{h:Heap}{x:Itm}{b:Nat}(w:WF h)(a:ItmH h x)(o:Own h b x.cells):ao go 144 [.ptr b 0] h fun u h'=>u=.bool (okT x.text)∧Fr [] h h':=by have l2:ag h b 2=some (.str x.text):=o.ld1 2;by_cases c:x.text.length≤64;refine ac ?_;simp only[evs,seval,l2,aE,(oM:(x.text.length:Int)≤64)];refine aa (oQ w Lf a.l) ?_;rintro _ h1 ⟨rfl,F⟩;simp only[evs,seval];exact⟨by simp[okT,c],F⟩;refine ac ?_;simp only[evs,seval,l2,aE,(oM:¬(x.text.length:Int)≤64)];exact⟨by simp[okT,c],Fr.refl w⟩
theorem CV{h:Heap}{x:Itm}{b:Nat}(w:WF h)(a:ItmH h x)(o:Own h b x.cells):ao go 147 [.ptr b 0] h fun u h'=>u=.bool (okM x.marks)∧Fr [] h h':=by have l2:ag h b 3=some x.vm:=o.ld1 3;by_cases c:x.marks.length≤8;refine ac ?_;simp only[evs,seval,l2,a.m.len,(oM:(x.marks.length:Int)≤8)];refine aa (mF Lh w a.m a.n) ?_;rintro _ h1 ⟨rfl,F⟩;simp only[evs,seval];exact⟨by simp[okM,c],F⟩;refine ac ?_;simp only[evs,seval,l2,a.m.len,(oM:¬(x.marks.length:Int)≤8)];exact⟨by simp[okM,c],Fr.refl w⟩
theorem xi{h:Heap}{x:Itm}{types:Nat}(w:WF h)(a:ItmH h x)(ht:types<256):ao go 96 [.agg x.cells,.int .i64 (types:Int)] h fun u h'=>u=.int .i64 (if okI x types then 0 else 6)∧Fr [] h h':=by let⟨h1,e_h1,F_h1,o_h1⟩:=aj w x.cells;have l0:ag h1 h.next 0=some (.int .u64 (x.key:Int)):=o_h1.ld1 0;have l1:ag h1 h.next 1=some (.int .u8 (x.type:Int)):=o_h1.ld1 1;have xt:=a.t;by_cases c0:x.key=0;refine ac ?_;simp only[evs,seval,←e_h1,l0,(oM:(x.key:Int)=0)];exact⟨by simp[okI,c0],F_h1⟩;by_cases c1:x.type<types;refine ac ?_;simp(disch:=omega) only[evs,seval,ab,←e_h1,l0,(oM:¬(x.key:Int)=0),l1,(oM:¬(types:Int)≤x.type)];refine aa (E6 F_h1.wf (a.fr F_h1) o_h1) ?_;rintro _ h2 ⟨rfl,F2⟩;cases c2:okT x.text;simp only[evs,seval];exact⟨by simp[okI,c2],F_h1.then F2⟩;simp only[evs,seval];refine aa (CV F2.wf (a.fr (F_h1.then F2)) (F2.get o_h1)) ?_;rintro _ h3 ⟨rfl,F3⟩;cases c3:okM x.marks;simp only[evs,seval];exact⟨by simp[okI,c3],(F_h1.then F2).then F3⟩;simp only[evs,seval];exact⟨by simp[okI,c0,c1,c2,c3],(F_h1.then F2).then F3⟩;refine ac ?_;simp(disch:=omega) only[evs,seval,ab,←e_h1,l0,(oM:¬(x.key:Int)=0),l1,(oM:(types:Int)≤x.type)];exact⟨by simp[okI,c1],F_h1⟩
theorem Bk{h:Heap}(r:Nat):ao go 228 [.int .u8 (r:Int)] h fun u h'=>u=.bool (!cJ r)∧h=h':=by by_cases c:(97:Int)≤r;by_cases d:(r:Int)≤122;refine ac ?_;simp only[evs,seval,c,d];simp[cJ];omega;by_cases e:(48:Int)≤r;by_cases f:(r:Int)≤57;omega;refine ac ?_;simp only[evs,seval,c,d,e,f];simp[cJ];omega;omega;by_cases e:(48:Int)≤r;by_cases f:(r:Int)≤57;refine ac ?_;simp only[evs,seval,c,e,f];simp[cJ];omega;refine ac ?_;simp only[evs,seval,c,e,f];simp[cJ];omega;refine ac ?_;simp only[evs,seval,c,e];simp[cJ];omega
theorem bI{z:List UInt8}{i:Nat}(h:i<z.length)(k:IntKind):aP .ixstr [.str z,.int k (i:Int)]=some (.int .u8 ((z[i]).toNat:Nat)):=by show(z[i]?).map _=_;rw[List.getElem?_eq_getElem h];rfl
theorem qj{h:Heap}{z:List UInt8}:ao go 224 [.str z] h fun u h'=>u=.bool (okN z)∧h=h':=by
 by_cases c0:z.length<1
 ·refine ac ?_;simp only[evs,seval,aE,(oM:(z.length:Int)<1)];simp[okN];intro _;omega
 by_cases c1:16<z.length
 ·refine ac ?_;simp only[evs,seval,aE,(oM:¬(z.length:Int)<1),(oM:(16:Int)<z.length)];simp[okN];intro _ _;omega
 ·have e0:okN z= !dP cJ z:=by simp[okN,(oM:0<z.length),(oM:z.length≤16)]
  rw[e0];refine ac ?_;simp only[evs,seval,aE,(oM:¬(z.length:Int)<1),(oM:¬(16:Int)<z.length)];refine az (fun k env hh=>h=hh∧∃(i:Nat),env.get 14=some (.int .i64 i)∧env.get 13=some (.int .i64 z.length)∧env.get 0=some (.str z)∧
   i≤z.length∧dP cJ (z.drop i)=dP cJ z∧k=z.length-i) z.length oM ?_ ?_
  ·exact⟨rfl,0,iS,iS,iS,oM,rfl,rfl⟩
  ·rintro k env hh ⟨rfl,i,g14,g13,g0,hi,e,rfl⟩;by_cases hlt:i<z.length
   ·unfold dP at e;rw[List.drop_eq_getElem_cons hlt,List.any_cons]at e;simp only[evs,seval,g14,g13,g0,(oM:(i:Int)<z.length),bI hlt];refine aa (Bk _) ?_;rintro _ _ ⟨rfl,rfl⟩;cases c:cJ ((z[i]).toNat:Int)
    ·simp(disch:=omega) only[evs,seval,ab,g14];rw[c,Bool.false_or]at e;refine rqn ⟨z.length-(i+1),oM,rfl,i+1,iS,iX,iX,oM,e,rfl⟩
     done
    ·simp only[evs,seval];rw[c,Bool.true_or]at e;unfold dP;rw[←e];simp
   ·simp only[evs,seval,g14,g13,(oM:¬(i:Int)<z.length)];rw[List.drop_of_length_le oM]at e;rw[←e];rfl
theorem Lc:EC 227 gy:=⟨dI,fun r h=>by
 by_cases c:r<32;refine ac ?_;simp only[evs,seval,c];simp[gy,c];refine ac ?_;simp only[evs,seval,c];simp[gy,c],fun r hr=>by simp[gy];omega⟩
theorem wo{h:Heap}{z:List UInt8}(w:WF h):ao go 223 [.str z] h fun u h'=>u=.bool (okT z)∧Fr [] h h':=by
 by_cases c:z.length≤64;refine ac ?_;simp only[evs,seval,aE,(oM:(z.length:Int)≤64)];refine aa (?_:ao go 177 _ _ (fun u h'=>∃r:Int,u=.int .i64 r∧(decide (0≤r)=dP gy z)∧Fr [] h h')) ?_;refine ac ?_;simp only[evs,seval];refine aa (sT w Lc oM) ?_;rintro _ h1 ⟨r,rfl,e,F⟩;simp only[evs,seval];exact⟨r,rfl,e,F⟩;rintro _ h1 ⟨r,rfl,e,F⟩;simp only[evs,seval];refine⟨?_,F⟩;have:decide (r<0)= !decide (0≤r):=by grind
 simp[okT,c,←e];exact this;refine ac ?_;simp only[evs,seval,aE,(oM:¬(z.length:Int)≤64)];exact⟨by simp[okT,c],Fr.refl w⟩
abbrev Str:=List UInt8
inductive NT where
 |nil
 |cons (kind:Nat) (tag key:Str) (attrs:List (Str×Str)) (text:Str) (va vc:V) (sub next:NT)
def eQ(a:Str×Str):List V:=[.str a.1,.str a.2]
theorem dG(a:Str×Str):(eQ a).length=2:=rfl
namespace NT
def len:NT→Nat
 |nil=>0
 |cons _ _ _ _ _ _ _ _ nx=>nx.len+1
def cells:NT→List V
 |nil=>[]
 |cons k tg ky _ tx va vc _ nx=>[.int .u8 (k:Int),.str tg,.str ky,va,.str tx,vc]++nx.cells
def keys:NT→List Str
 |nil=>[]
 |cons _ _ ky _ _ _ _ _ nx=>ky::nx.keys
theorem cells_len:∀t:NT,t.cells.length=t.len*6
 |nil=>rfl
 |cons _ _ _ _ _ _ _ _ nx=>by simp[cells,len,cells_len nx];omega
theorem keys_len:∀t:NT,t.keys.length=t.len
 |nil=>rfl
 |cons _ _ _ _ _ _ _ _ nx=>by simp[keys,len,keys_len nx]
def at':NT→Nat→NT
 |t,0=>t
 |nil,_+1=>nil
 |cons _ _ _ _ _ _ _ _ nx,i+1=>nx.at' i
end NT
def NH(h:Heap):NT→Prop
 |.nil=>True
 |.cons k _ _ at' _ va vc sub nx=>k<256∧Recs eQ 2 h va at'∧at'.length≤4096∧Sl h 6 vc sub.len sub.cells∧sub.len≤4096∧NH h sub∧NH h nx
theorem NH.fr{h h':Heap}(f:Fr [] h h'):∀{t:NT},NH h t→NH h' t
 |.nil,_=>trivial
 |.cons _ _ _ _ _ _ _ _ _,⟨a,b,c,d,e,g,i⟩=>⟨a,b.fr f,c,d.fr f,e,NH.fr f g,NH.fr f i⟩
set_option maxRecDepth 4000
namespace NT
theorem split:∀(t:NT)(i:Nat),i<t.len→∃k tg ky at' tx va vc sub nx,t.at' i=.cons k tg ky at' tx va vc sub nx∧t.cells.drop (i*6)=[.int .u8 ((k:Nat):Int),.str tg,.str ky,va,.str tx,vc]++nx.cells∧t.at' (i+1)=nx∧t.keys.drop i=ky::nx.keys∧t.keys[i]? =some ky∧nx.len+(i+1)=t.len
 |.nil,_,h=>by cases h
 |.cons k tg ky at' tx va vc sub nx,0,_=>⟨k,tg,ky,at',tx,va,vc,sub,nx,rfl,rfl,by cases nx<;>rfl,rfl,rfl,rfl⟩
 |.cons _ _ _ _ _ _ _ _ nx,i+1,h=>by let⟨k,tg,ky,at',tx,va,vc,sub,n,e1,e2,e3,e4,e5,e6⟩:=split nx i (by simp[len]at h;omega);refine⟨k,tg,ky,at',tx,va,vc,sub,n,e1,?_,e3,e4,?_,by simp only[len];omega⟩;rw[(oM:(i+1) *6=6+i*6),←List.drop_drop];exact e2;simpa[keys]using e5
theorem at_end:∀(t:NT)(i:Nat),t.len≤i→t.at' i=.nil
 |.nil,0,_=>rfl
 |.nil,_+1,_=>rfl
 |.cons _ _ _ _ _ _ _ _ nx,0,h=>by simp[len]at h
 |.cons _ _ _ _ _ _ _ _ nx,i+1,h=>at_end nx i (by simp[len]at h;omega)
end NT
theorem NH.at'{h:Heap}:∀{t:NT}(i:Nat),NH h t→NH h (t.at' i)
 |.nil,0,_=>trivial
 |.nil,_+1,_=>trivial
 |.cons _ _ _ _ _ _ _ _ _,0,a=>a
 |.cons _ _ _ _ _ _ _ _ _,i+1,⟨_,_,_,_,_,_,g⟩=>NH.at' i g
def At6(h:Heap)(b o:Nat)(x0 x1 x2 x3 x4 x5:V):Prop:=ag h b o=some x0∧ag h b (o+1)=some x1∧ag h b (o+2)=some x2∧ag h b (o+3)=some x3∧ag h b (o+4)=some x4∧ag h b (o+5)=some x5∧ai h b o 6=some [x0,x1,x2,x3,x4,x5]
theorem _root_.Go.Ev.Sl.ix6{h:Heap}{v:V}{n:Nat}{cs:List V}(a:Sl h 6 v n cs){i:Nat}(hi:i<n){x0 x1 x2 x3 x4 x5:V}{r:List V}(e:cs.drop (i*6)=[x0,x1,x2,x3,x4,x5]++r):
 ∃b o,aP (.ixs 6) [v,.int .i64 (i:Int)]=some (.ptr b o)∧At6 h b o x0 x1 x2 x3 x4 x5:=by
 let⟨b,o,e1,e2,e3⟩:=Sl.ix a .i64 (i:Int) oM oM;rw[Int.toNat_natCast]at e2 e3;rw[e]at e3;have g:∀j,cs[i*6+j]? =([x0,x1,x2,x3,x4,x5]++r)[j]? :=fun j=>by rw[←e,List.getElem?_drop]
 refine⟨b,o,e1,?_,?_,?_,?_,?_,?_,e3⟩;have:=e2 0 oM;rw[g]at this;exact this;grind;grind;grind;grind;grind
theorem _root_.Go.Ev.Own.at6{h:Heap}{b:Nat}{x0 x1 x2 x3 x4 x5:V}(o:Own h b [x0,x1,x2,x3,x4,x5]):At6 h b 0 x0 x1 x2 x3 x4 x5:=⟨o.ld1 0,o.ld1 1,o.ld1 2,o.ld1 3,o.ld1 4,o.ld1 5,by rw[o.ld];rfl⟩
theorem xQ{h:Heap}{x0 x1 x3 x4 x5:V}{ky k0:Str}{bk:Nat}(w:WF h)(hk:∀h',Fr [] h h'→ag h' bk 2=some (.str k0))(ones:au [x0,x1,.str ky,x3,x4,x5]=true):
 ao go 226 [.agg [x0,x1,.str ky,x3,x4,x5],.ptr bk 0] h fun u h'=>u=.bool (ky==k0)∧Fr [] h h':=by
 let⟨h1,e_h1,F_h1,o_h1⟩:=aj w [x0,x1,.str ky,x3,x4,x5];have l2:ag h1 h.next 2=some (.str ky):=o_h1.ld1 2;refine ac ?_;simp only[evs,seval,←e_h1,l2,hk h1 F_h1,aJ];exact F_h1
theorem Bj{h:Heap}{u:V}{t:NT}{i bk:Nat}{k0:Str}(w:WF h)(a:Sl h 6 u i (t.cells.take (i*6)))(hi:i≤t.len)(hn:i≤4096)(ones:au t.cells=true)(hk:∀h',Fr [] h h'→ag h' bk 2=some (.str k0)):
 ao go 225 [u,.func (.func 226) [] [.ptr bk 0]] h fun z h'=>z=.bool ((t.keys.take i).any (· ==k0))∧Fr [] h h':=by
 refine ac ?_;simp only[evs,seval];refine aa (?_:ao go 229 _ _ (fun z h'=>∃r:Int,z=.int .i64 r∧(decide (0≤r)=(t.keys.take i).any (· ==k0))∧Fr [] h h')) ?_
 ·refine ac ?_;simp only[evs,seval,a.len];refine az (fun k env hh=>Fr [] h hh∧∃(j:Nat),env.get 8=some (.int .i64 j)∧env.get 7=some (.int .i64 i)∧env.get 0=some u∧env.get 1=some (.func (.func 226) [] [.ptr bk 0])∧
   j≤i∧((t.keys.take i).drop j).any (· ==k0)=(t.keys.take i).any (· ==k0)∧k=i-j) i oM ?_ ?_
  ·exact⟨Fr.refl w,0,iS,iS,iS,iS,oM,rfl,rfl⟩
  ·rintro k env hh ⟨F,j,g8,g7,g0,g1,hj,e,rfl⟩;by_cases hlt:j<i
   ·let⟨kd,tg,ky,at',tx,va,vc,sub,nx,e1,e2,e3,e4,e5,_⟩:=t.split j oM;have q:(t.cells.take (i*6)).drop (j*6)=[.int .u8 (kd:Int),.str tg,.str ky,va,.str tx,vc]++nx.cells.take (i*6-j*6-6):=by
     rw[List.drop_take,e2,(oO:i*6-j*6=([.int .u8 (kd:Int),.str tg,.str ky,va,.str tx,vc]:List V).length+(i*6-j*6-6)),List.take_length_add_append];simp
    let⟨b,o,p1,p2⟩:=(a.fr F).ix6 hlt q;have on:au [.int .u8 (kd:Int),.str tg,.str ky,va,.str tx,vc]=true:=by
     have:=kW (j*6) ones;rw[e2,aN]at this;exact(Bool.and_eq_true _ _▸this).1
    have ek:(t.keys.take i)[j]? =some ky:=by grind
    rw[aK ek,List.any_cons]at e;simp only[evs,seval,g8,g7,g0,g1,(oM:(j:Int)<(i:Int)),p1,p2.2.2.2.2.2.2];refine aa (xQ F.wf (fun h' f=>hk h' (F.then f)) on) ?_;rintro _ h1 ⟨rfl,F1⟩;cases c:ky==k0
    ·simp(disch:=omega) only[evs,seval,ab,g8];rw[c]at e;refine rqn ⟨i-(j+1),oM,F.then F1,j+1,iS,iX,iX,iX,oM,by simpa using e,rfl⟩
     done
    ·simp only[evs,seval];rw[c]at e;exact⟨j,rfl,by rw[←e];simp,F.then F1⟩
   ·simp only[evs,seval,g8,g7,(oM:¬(j:Int)<(i:Int))];rw[List.drop_of_length_le oO]at e;exact⟨-1,rfl,by rw[←e];rfl,F⟩
 ·rintro _ h1 ⟨r,rfl,e,F⟩;simp only[evs,seval];exact⟨by rw[e],F⟩
set_option maxRecDepth 4000
def leS(a b:Str):Bool:=Op.bytesLess a b||a==b
theorem ke(a b:Str):aP (.sb .leq) [.str a,.str b]=some (.bool (leS a b)):=rfl
def bU(p:Option Str)(n:Str):Bool:=match p with
 |none=>true
 |some q=> !leS n q
def cZ:Option Str→List (Str×Str)→Bool
 |_,[]=>true
 |p,(n,v)::r=>(okN n&&(okT v&&bU p n))&&cZ (some n) r
def eT:List Str→List Str→Bool
 |_,[]=>true
 |pr,k::r=>(k==[]|| !(pr.any (· ==k)))&&eT (pr++[k]) r
theorem oF(pr:List Str)(k:Str)(r:List Str):eT pr (k::r)=((k==[]|| !(pr.any (· ==k)))&&eT (pr++[k]) r):=rfl
theorem mN(p:Option Str)(a:Str×Str)(r:List (Str×Str)):cZ p (a::r)=((okN a.1&&(okT a.2&&bU p a.1))&&cZ (some a.1) r):=rfl
def ga(k:Nat)(tg ky:Str)(at':List (Str×Str))(tx:Str)(sub:NT):Bool:=
 if k=2 then okT tx&&(tg==[]&&(ky==[]&&(decide (at'.length=0)&&decide (sub.len=0))))
 else decide (k=1)&&(okN tg&&((ky==[]||okN ky)&&(tx==[]&&(decide (at'.length≤8)&&(decide (sub.len≤16)&&(cZ none at'&&eT [] sub.keys))))))
def i7(at':List (Str×Str))(i:Nat):Option Str:=if i=0 then none else(at'[i-1]?).map (·.1)
theorem qd{at':List (Str×Str)}{i:Nat}{a:Str×Str}(h:at'[i]? =some a):i7 at' (i+1)=some a.1:=by simp[i7,h]
theorem Jj{h:Heap}{b o:Nat}{x0 x1 x2 x3 x4 vc:V}{sub:NT}{env:T V}{R:V→Heap→Prop}(w:WF h)(hA:∀h',Fr [] h h'→At6 h' b o x0 x1 x2 x3 x4 vc)
 (rc:Sl h 6 vc sub.len sub.cells) (nc:sub.len≤4096) (ones:au sub.cells=true) (g0:env.get 0=some (.ptr b o))
 (k:∀h',Fr [] h h'→R (.bool (eT [] sub.keys)) h'):W go alC env h (jg [.t 2] R):=by
 have q5:=(hA h (Fr.refl w)).2.2.2.2.2.1;simp only[evs,seval,alC,g0,q5,rc.len];refine az (fun n env hh=>Fr [] h hh∧∃(i:Nat),env.get 142=some (.int .i64 i)∧env.get 141=some (.int .i64 sub.len)∧env.get 140=some vc∧env.get 0=some (.ptr b o)∧
  i≤sub.len∧eT (sub.keys.take i) (sub.keys.drop i)=eT [] sub.keys∧n=sub.len-i) sub.len oM ?_ ?_
 ·exact⟨Fr.refl w,0,iS,iS,iS,iX,oM,rfl,rfl⟩
 ·rintro n env hh ⟨F,i,g142,g141,g140,g0,hi,e,rfl⟩;by_cases hlt:i<sub.len
  ·let⟨kd,tg,ky,at',tx,va,vc',sb,nx,e1,e2,e3,e4,e5,_⟩:=sub.split i hlt;let⟨b',o',p1,p2⟩:=(rc.fr F).ix6 hlt e2;have on:au [.int .u8 (kd:Int),.str tg,.str ky,va,.str tx,vc']=true:=by
    have:=kW (i*6) ones;rw[e2,aN]at this;exact(Bool.and_eq_true _ _▸this).1
   have hlt':(i:Int)<sub.len:=oM
   rw[e4]at e;rw[oF]at e;have ek:(sub.keys.take i)++[ky]=sub.keys.take (i+1):=by grind
   have ed:nx.keys=sub.keys.drop (i+1):=by
    rw[←List.drop_drop (i:=1),e4];rfl
   rw[ek,ed]at e;let⟨h1,e_h1,F_h1,o_h1⟩:=aj F.wf [.int .u8 0,.str [],.str [],.nils,.str [],.nils];simp only[evs,seval,g142,g141,g140,hlt',p1,p2.2.2.2.2.2.2,←e_h1];refine ah (c':=[.int .u8 (kd:Int),.str tg,.str ky,va,.str tx,vc']) F_h1.wf o_h1 rfl on rfl ?_;rintro h2 o2 F2 n2;have F02:Fr [] hh h2:=F_h1.fresh F2 F.wf (Nat.le_refl _);have q2:ag h2 hh.next 2=some (.str ky):=o2.ld1 2;have q5:=(hA h2 (F.then F02)).2.2.2.2.2.1;cases c:ky==[]
   ·let⟨u,s1,s2⟩:=(rc.fr (F.then F02)).upto oM (Sl.ne (rc.fr (F.then F02)) oM) .i64 (i:Int) oM oM;rw[Int.toNat_natCast]at s2;simp only[evs,seval,g0,q2,aV,c,q5,s1];apply aa (Bj F02.wf s2 oM oM ones (fun h' f=>(f.get o2).ld1 2));rintro _ h3 ⟨rfl,F3⟩;cases c2:(sub.keys.take i).any (· ==ky)
    ·simp(disch:=omega) only[evs,seval,ab,g142];rw[c,c2]at e;refine rqn ⟨sub.len-(i+1),oM,(F.then F02).then F3,i+1,iS,iX,iX,iX,oM,by simpa using e,rfl⟩
     done
    ·simp only[evs,seval];have:=k _ ((F.then F02).then F3);rw[←e,c,c2]at this;simpa using this
   ·simp(disch:=omega) only[evs,seval,ab,g142,q2,aV,c];rw[c]at e;refine rqn ⟨sub.len-(i+1),oM,F.then F02,i+1,iS,iX,iX,iX,oM,by simpa using e,rfl⟩
    done
  ·simp only[evs,seval,g142,g141,(oM:¬(i:Int)<sub.len)];rw[List.drop_of_length_le (by rw[NT.keys_len];omega)]at e;have:=k _ F;rw[←e]at this;exact this
theorem D8{h:Heap}{b o:Nat}{x0 x1 x2 va x4 vc:V}{at':List (Str×Str)}{sub:NT}{env:T V}{R:V→Heap→Prop}(w:WF h)(hA:∀h',Fr [] h h'→At6 h' b o x0 x1 x2 va x4 vc)
 (ra:Recs eQ 2 h va at') (na:at'.length≤4096) (rc:Sl h 6 vc sub.len sub.cells) (nc:sub.len≤4096) (ones:au sub.cells=true) (g0:env.get 0=some (.ptr b o))
 (k:∀h',Fr [] h h'→R (.bool (cZ none at'&&eT [] sub.keys)) h'):W go alA env h (jg [.t 2] R):=by
 have q3:=(hA h (Fr.refl w)).2.2.2.1;simp only[evs,seval,alA,g0,q3,ra.len];refine az (fun n env hh=>Fr [] h hh∧∃(i:Nat),env.get 103=some (.int .i64 i)∧env.get 102=some (.int .i64 at'.length)∧env.get 101=some va∧env.get 0=some (.ptr b o)∧
  i≤at'.length∧cZ (i7 at' i) (at'.drop i)=cZ none at'∧n=at'.length-i) at'.length oM ?_ ?_
 ·exact⟨Fr.refl w,0,iS,iS,iS,iX,oM,rfl,rfl⟩
 ·rintro n env hh ⟨F,i,g103,g102,g101,g0,hi,e,rfl⟩;by_cases hlt:i<at'.length
  ·have hlt':(i:Int)<at'.length:=oM
   let⟨b',o',a,p1,p2,p3,p4⟩:=(ra.fr F).ix dG .i64 (i:Int) oM hlt';rw[Int.toNat_natCast]at p4;rw[aK p4,mN]at e;have en:=qd p4;let⟨h1,e_h1,F_h1,o_h1⟩:=aj F.wf [.str [],.str []];simp only[evs,seval,g103,g102,g101,hlt',p1,p3,←e_h1];apply stu F_h1.wf o_h1;rintro h2 o2 F2 n2;have F02:Fr [] hh h2:=F_h1.fresh F2 F.wf (Nat.le_refl _);have q0:ag h2 hh.next 0=some (.str a.1):=o2.ld1 0;have q1:ag h2 hh.next 1=some (.str a.2):=o2.ld1 1;simp only[evs,seval,eff,q0];apply aa qj;rintro _ _ ⟨rfl,rfl⟩;cases c1:okN a.1
   ·simp only[evs,seval,DF,eff,q0];have:=k _ (F.then F02);rw[←e,c1]at this;simpa using this
   simp only[evs,seval,eff,q1];apply aa (wo F02.wf);rintro _ h3 ⟨rfl,F3⟩;have F03:=(F.then F02).then F3;have q0':ag h3 hh.next 0=some (.str a.1):=(F3.get o2).ld1 0;cases c2:okT a.2
   ·simp only[evs,seval,DF,eff,q0,q1];have:=k _ F03;rw[←e,c1,c2]at this;simpa using this
   have fin:bU (i7 at' i) a.1=true→cZ (i7 at' (i+1)) (at'.drop (i+1))=cZ none at':=fun c=>by grind
   by_cases c3:i=0
   ·simp(disch:=omega) only[evs,seval,DF,eff,ab,g103,q0,q1,(oM:¬(0:Int)<(i:Int))];refine rqn ⟨at'.length-(i+1),oM,F03,i+1,iS,iX,iX,iX,oM,fin (by rw[c3];rfl),rfl⟩
    done
   ·let⟨b2,o2',a2,r1,r2,r3,r4⟩:=(ra.fr F03).ix dG .i64 ((i:Int)-1) oM oM;have r4':at'[i-1]? =some a2:=by rw[←r4];congr 1;omega
    have r2':ag h3 b2 o2'=some (.str a2.1):=r2 0 oM;have q3:=(hA h3 F03).2.2.2.1;have pe:i7 at' i=some a2.1:=by simp[i7,c3,r4']
    cases c4:leS a.1 a2.1
    ·simp(disch:=omega) only[evs,seval,DF,eff,ab,c4,g103,g0,q0,q1,q0',q3,r1,r2',ke,(oM:(0:Int)<(i:Int))];refine rqn ⟨at'.length-(i+1),oM,F03,i+1,iS,iX,iX,iX,oM,fin (by rw[pe];simp[bU,c4]),rfl⟩
     done
    ·simp(disch:=omega) only[evs,seval,DF,eff,ab,c4,g0,q0,q1,q0',q3,r1,r2',ke,(oM:(0:Int)<(i:Int))];have:=k _ F03;rw[←e,pe,c1,c2]at this;simpa[bU,c4]using this
  ·simp only[evs,seval,g103,g102,(oM:¬(i:Int)<at'.length)];rw[List.drop_of_length_le oM]at e;refine Jj F.wf (fun h' f=>hA h' (F.then f)) (rc.fr F) nc ones iX fun h' f=>?_;have:=k h' (F.then f);rw[←e]at this;simpa[cZ]using this
theorem D6{h:Heap}{b o k:Nat}{tg ky tx:Str}{at':List (Str×Str)}{va vc:V}{sub:NT}(w:WF h)(hA:∀h',Fr [] h h'→At6 h' b o (.int .u8 (k:Int)) (.str tg) (.str ky) va (.str tx) vc)
 (ra:Recs eQ 2 h va at') (na:at'.length≤4096) (rc:Sl h 6 vc sub.len sub.cells) (nc:sub.len≤4096) (ones:au sub.cells=true):
 ao go 219 [.ptr b o] h fun u h'=>u=.bool (ga k tg ky at' tx sub)∧Fr [] h h':=by
 have q0:ag h b o=some (.int .u8 (k:Int)):=(hA h (Fr.refl w)).1;by_cases c0:k=2;have q4:ag h b (o+4)=some (.str tx):=(hA h (Fr.refl w)).2.2.2.2.1;unfold ga;rw[if_pos c0];refine ac ?_;simp only[evs,seval,q0,(oM:(k:Int)=2),q4];refine aa (wo w) ?_;rintro _ h1 ⟨rfl,F1⟩;let⟨_,q1,q2,q3,_,q5,_⟩:=hA h1 F1;have l1:=(ra.fr F1).len;have l2:=(rc.fr F1).len;cases c1:okT tx;simp only[evs,seval];exact⟨rfl,F1⟩;cases c2:tg==[];simp only[evs,seval,q1,aJ,c2];exact⟨rfl,F1⟩;cases c3:ky==[];simp only[evs,seval,q1,aJ,c2,q2,c3];exact⟨rfl,F1⟩;by_cases c4:at'.length=0;by_cases c5:sub.len=0;simp only[evs,seval,q1,aJ,c2,q2,c3,q3,l1,(oM:((at'.length:Nat):Int)=0),q5,l2,(oM:((sub.len:Nat):Int)=0)];exact⟨by simp[c4,c5],F1⟩;simp only[evs,seval,q1,aJ,c2,q2,c3,q3,l1,(oM:((at'.length:Nat):Int)=0),q5,l2,(oM:¬((sub.len:Nat):Int)=0)];exact⟨by simp[c5],F1⟩;simp only[evs,seval,q1,aJ,c2,q2,c3,q3,l1,(oM:¬((at'.length:Nat):Int)=0)];exact⟨by simp[c4],F1⟩;unfold ga;rw[if_neg c0];by_cases c1:k=1;let⟨_,q1,q2,q3,q4,q5,_⟩:=hA h (Fr.refl w);have l1:=ra.len;have l2:=rc.len;refine ac ?_;simp only[evs,seval,q0,(oM:(k:Int)=1),q1];refine aa qj ?_;rintro _ _ ⟨rfl,rfl⟩;cases c2:okN tg;simp only[evs,seval];exact⟨iS,Fr.refl w⟩;cases ck:ky==[];simp only[evs,seval,q2,aV,ck];refine aa qj ?_;rintro _ _ ⟨rfl,rfl⟩;cases cn:okN ky;simp only[evs,seval];exact⟨iS,Fr.refl w⟩;cases ct:tx==[];simp only[evs,seval,aV,q4,ct];exact⟨iS,Fr.refl w⟩;by_cases ca:at'.length≤8;by_cases cs:sub.len≤16;simp only[evs,seval,aV,q4,ct,q3,l1,(oM:¬(8:Int)<(at'.length:Nat)),q5,l2,(oM:¬(16:Int)<(sub.len:Nat))];refine D8 w hA ra na rc nc ones iS fun h' f=>⟨by simp[c1,ca,cs],f⟩;simp only[evs,seval,aV,q4,ct,q3,l1,(oM:¬(8:Int)<(at'.length:Nat)),q5,l2,(oM:(16:Int)<(sub.len:Nat))];exact⟨by simp[cs],Fr.refl w⟩;simp only[evs,seval,aV,q4,ct,q3,l1,(oM:(8:Int)<(at'.length:Nat))];exact⟨by simp[ca],Fr.refl w⟩;cases ct:tx==[];simp only[evs,seval,q2,aV,ck,q4,ct];exact⟨iS,Fr.refl w⟩;by_cases ca:at'.length≤8;by_cases cs:sub.len≤16;simp only[evs,seval,q2,aV,ck,q4,ct,q3,l1,(oM:¬(8:Int)<(at'.length:Nat)),q5,l2,(oM:¬(16:Int)<(sub.len:Nat))];refine D8 w hA ra na rc nc ones iS fun h' f=>⟨by simp[c1,ca,cs],f⟩;simp only[evs,seval,q2,aV,ck,q4,ct,q3,l1,(oM:¬(8:Int)<(at'.length:Nat)),q5,l2,(oM:(16:Int)<(sub.len:Nat))];exact⟨by simp[cs],Fr.refl w⟩;simp only[evs,seval,q2,aV,ck,q4,ct,q3,l1,(oM:(8:Int)<(at'.length:Nat))];exact⟨by simp[ca],Fr.refl w⟩;refine ac ?_;simp only[evs,seval,q0,(oM:¬(k:Int)=2),(oM:¬(k:Int)=1)];exact⟨by simp[c1],Fr.refl w⟩
theorem NH.ones{h:Heap}:∀{t:NT},NH h t→au t.cells=true
 |.nil,_=>rfl
 |.cons k tg ky _ tx va vc _ nx,⟨_,b,_,d,_,_,g⟩=>by show au ([.int .u8 (k:Int),.str tg,.str ky,va,.str tx,vc]++nx.cells)=true;rw[aN,NH.ones g];simp only[av,aF,Sl.one b,Sl.one d];rfl
namespace NT
def node(k:Nat)(tg ky:Str)(at':List (Str×Str))(tx:Str)(sub:NT)(w:Nat→Nat→Nat×Bool)(l c:Nat):Nat×Bool:=
 if 6<l∨64<c+1∨ga k tg ky at' tx sub=false then(c+1,false)else w (l+1) (c+1)
def walk:NT→Nat→Nat→Nat×Bool
 |nil,_,c=>(c,true)
 |cons k tg ky at' tx _ _ sub nx,l,c=>let r:=node k tg ky at' tx sub sub.walk l c;if r.2=true then nx.walk l r.1 else r
theorem iF:∀(t:NT)(l c:Nat),c≤64→(t.walk l c).1≤65∧((t.walk l c).2=true→(t.walk l c).1≤64)
 |nil,_,c,h=>⟨by simp[walk];omega,fun _=>h⟩
 |cons k tg ky at' tx _ _ sub nx,l,c,h=>by
  have q:(node k tg ky at' tx sub sub.walk l c).1≤65∧((node k tg ky at' tx sub sub.walk l c).2=true→(node k tg ky at' tx sub sub.walk l c).1≤64):=by unfold node;split;grind;rename_i x;exact iF sub (l+1) (c+1) oM
  simp only[walk];split;rename_i x;exact iF nx l _ (q.2 x);exact q
theorem node_le(k:Nat)(tg ky:Str)(at':List (Str×Str))(tx:Str)(sub:NT)(l c:Nat)(h:c≤64):(node k tg ky at' tx sub sub.walk l c).1≤65∧((node k tg ky at' tx sub sub.walk l c).2=true→(node k tg ky at' tx sub sub.walk l c).1≤64):=by unfold node;split;grind;exact iF sub (l+1) (c+1) oM
end NT
structure Ms(h0 h:Heap)(bc bd bw:Nat)(c d:Nat):Prop where
 f:Fr [] h0 h
 oc:Own h bc [.int .i64 (c:Int)]
 od:Own h bd [.int .i64 (d:Int)]
 ow:Own h bw [.func (.func 218) [] [.ptr bc 0,.ptr bd 0,.ptr bw 0]]
 dl:d≤7
structure MsB(h0:Heap)(bc bd bw:Nat):Prop where
 w:WF h0
 c:h0.next≤bc
 d:h0.next≤bd
 b:h0.next≤bw
 cd:bc≠bd
 cw:bc≠bw
 dw:bd≠bw
theorem Ms.fr{h0 h h':Heap}{bc bd bw c d:Nat}(m:Ms h0 h bc bd bw c d)(f:Fr [] h h'):Ms h0 h' bc bd bw c d:=⟨m.f.then f,f.get m.oc,f.get m.od,f.get m.ow,m.dl⟩
def EY(h0:Heap)(k:Nat)(tg ky:Str)(at':List (Str×Str))(tx:Str)(va vc:V)(sub:NT):Prop:=
 ∀(h:Heap)(b o bc bd bw l c d:Nat),MsB h0 bc bd bw→Ms h0 h bc bd bw c d→(∀h',Fr [] h0 h'→At6 h' b o (.int .u8 (k:Int)) (.str tg) (.str ky) va (.str tx) vc)→l≤7→c≤64→
  ao go 218 [.ptr b o,.int .i64 (l:Int),.ptr bc 0,.ptr bd 0,.ptr bw 0] h fun u h'=>u=.bool (NT.node k tg ky at' tx sub sub.walk l c).2∧∃d',Ms h0 h' bc bd bw (NT.node k tg ky at' tx sub sub.walk l c).1 d'
def AllE(h0:Heap):NT→Prop
 |.nil=>True
 |.cons k tg ky at' tx va vc sub nx=>EY h0 k tg ky at' tx va vc sub∧AllE h0 nx
theorem AllE.at'{h:Heap}:∀{t:NT}(i:Nat),AllE h t→AllE h (t.at' i)
 |.nil,0,_=>trivial
 |.nil,_+1,_=>trivial
 |.cons _ _ _ _ _ _ _ _ _,0,a=>a
 |.cons _ _ _ _ _ _ _ _ _,i+1,⟨_,g⟩=>AllE.at' i g
theorem GY{h0:Heap}{k:Nat}{tg ky:Str}{at':List (Str×Str)}{tx:Str}{va vc:V}{sub:NT}
 (ra:Recs eQ 2 h0 va at') (na:at'.length≤4096) (rc:Sl h0 6 vc sub.len sub.cells) (nc:sub.len≤4096) (ns:NH h0 sub) (A:AllE h0 sub):EY h0 k tg ky at' tx va vc sub:=by
 intro h b o bc bd bw l c d B M hA hl hc;have lc:ag h bc 0=some (.int .i64 (c:Int)):=M.oc.ld1 0;refine ac ?_;simp(disch:=omega) only[evs,seval,ab,lc];refine stu M.f.wf M.oc ?_;rintro h1 o1 F1 n1;have od1:Own h1 bd [.int .i64 (d:Int)]:=F1.own _ _ (eV B.cd.symm) M.od;have ld:ag h1 bd 0=some (.int .i64 (d:Int)):=od1.ld1 0;simp only[evs,seval,ld];have dl:=M.dl;refine ah (c':=[.int .i64 ((max d l:Nat):Int)]) F1.wf od1 rfl rfl (by rw[(oM:((max d l:Nat):Int)=max (d:Int) (l:Int))];rfl) ?_;rintro h2 o2 F2 n2;have M2:Ms h0 h2 bc bd bw (c+1) (max d l):=by refine⟨?_,F2.own _ _ (eV B.cd) o1,o2,F2.own _ _ (eV B.dw.symm) (F1.own _ _ (eV B.cw.symm) M.ow),oM⟩;exact Fr.trans (Fr.trans M.f F1 B.w (fun x hx=>.inl hx) (fun x hx=>.inr (by simp at hx;subst hx;exact B.c))) F2 B.w (fun x hx=>.inl hx) (fun x hx=>.inr (by simp at hx;subst hx;exact B.d))
 have lc2:ag h2 bc 0=some (.int .i64 ((c+1:Nat):Int)):=M2.oc.ld1 0;by_cases c1:6<l;have e:NT.node k tg ky at' tx sub sub.walk l c=(c+1,false):=if_pos (.inl c1);simp only[evs,seval,(oM:(6:Int)<(l:Int))];rw[e];exact⟨rfl,_,M2⟩;by_cases c2:64<c+1;have e:NT.node k tg ky at' tx sub sub.walk l c=(c+1,false):=if_pos (.inr (.inl c2));simp only[evs,seval,(oM:¬(6:Int)<(l:Int)),lc2,(oM:(64:Int)<((c+1:Nat):Int))];rw[e];exact⟨rfl,_,M2⟩;simp only[evs,seval,(oM:¬(6:Int)<(l:Int)),lc2,(oM:¬(64:Int)<((c+1:Nat):Int))];apply aa (D6 M2.f.wf (fun h' f=>hA h' (M2.f.then f)) (ra.fr M2.f) na (rc.fr M2.f) nc ns.ones);rintro _ h3 ⟨rfl,F3⟩;have M3:=M2.fr F3;cases c3:ga k tg ky at' tx sub;have e:NT.node k tg ky at' tx sub sub.walk l c=(c+1,false):=if_pos (.inr (.inr c3));simp only[evs,seval];rw[e];exact⟨rfl,_,M3⟩;have e:NT.node k tg ky at' tx sub sub.walk l c=sub.walk (l+1) (c+1):=if_neg (by simp[c3];omega);rw[e];have q5:=(hA h3 M3.f).2.2.2.2.2.1;simp only[evs,seval,q5,(rc.fr M3.f).len];refine az (fun n env hh=>∃(i c' d':Nat),Ms h0 hh bc bd bw c' d'∧env.get 30=some (.int .i64 i)∧env.get 29=some (.int .i64 sub.len)∧env.get 0=some (.ptr b o)∧env.get 1=some (.int .i64 l)∧env.get 4=some (.ptr bw 0)∧
  i≤sub.len∧c'≤64∧(sub.at' i).walk (l+1) c'=sub.walk (l+1) (c+1)∧n=sub.len-i) sub.len oM ?_ ?_
 exact⟨0,c+1,max d l,M3,iS,iS,iS,iS,iS,oM,oM,by cases sub<;>rfl,rfl⟩;rintro n env hh ⟨i,c',d',M',g30,g29,g0,g1,g4,hi,hc',e',rfl⟩;by_cases hlt:i<sub.len;let⟨kd,tg',ky',at2,tx',va',vc',sb,nx,e1,e2,e3,e4,e5,e6⟩:=sub.split i hlt;have hlt':(i:Int)<sub.len:=oM;have a:=A.at' i;rw[e1]at a e';let⟨b',o',p1,_⟩:=(rc.fr M'.f).ix6 hlt e2;have hA':∀h',Fr [] h0 h'→At6 h' b' o' (.int .u8 (kd:Int)) (.str tg') (.str ky') va' (.str tx') vc':=fun h' f=>by let⟨b2,o2,p1',p2'⟩:=(rc.fr f).ix6 hlt e2;rw[p1]at p1';cases p1';exact p2'
 have q5:=(hA hh M'.f).2.2.2.2.2.1;have lw:ag hh bw 0=some (.func (.func 218) [] [.ptr bc 0,.ptr bd 0,.ptr bw 0]):=M'.ow.ld1 0;simp(disch:=omega) only[evs,seval,eff,ab,g30,g29,g0,g1,g4,hlt',lw,q5,p1];apply aa (a.1 hh b' o' bc bd bw (l+1) c' d' B M' hA' oM hc');rintro _ h4 ⟨rfl,d4,M4⟩;simp only[NT.walk]at e';have nl:=NT.node_le kd tg' ky' at2 tx' sb (l+1) c' hc';cases c4:(NT.node kd tg' ky' at2 tx' sb sb.walk (l+1) c').2;rw[c4]at e';simp only[evs,seval,DF,eff,g4,lw,q5];rw[←e'];exact⟨by simp[c4],d4,by simpa using M4⟩;rw[c4]at e';simp(disch:=omega) only[evs,seval,DF,eff,ab,g30,g4,lw,q5];refine rqn ⟨sub.len-(i+1),oM,i+1,_,d4,M4,iS,iX,iX,iX,iX,oM,nl.2 c4,?_,rfl⟩;rw[e3];simpa using e';simp only[evs,seval,g30,g29,(oM:¬(i:Int)<sub.len)];rw[NT.at_end _ _ oM]at e';rw[←e'];exact⟨rfl,d',M'⟩
theorem Ji{h:Heap}:∀{t:NT},NH h t→AllE h t
 |.nil,_=>trivial
 |.cons _ _ _ _ _ _ _ _ _,⟨_,b,c,d,e,f,g⟩=>⟨GY b c d e f (Ji f),Ji g⟩
def NT.count(k:Nat)(tg ky:Str)(at':List (Str×Str))(tx:Str)(sub:NT):Nat:=
 if(node k tg ky at' tx sub sub.walk 1 0).2=true then(node k tg ky at' tx sub sub.walk 1 0).1 else 0
theorem yi{h:Heap}{k:Nat}{tg ky:Str}{at':List (Str×Str)}{tx:Str}{va vc:V}{sub:NT}(w:WF h)(n:NH h (.cons k tg ky at' tx va vc sub .nil)):
 ao go 206 [.agg [.int .u8 (k:Int),.str tg,.str ky,va,.str tx,vc]] h fun u h'=>∃d:Nat,u=.tup [.int .i64 (NT.count k tg ky at' tx sub:Nat),.int .i64 (d:Int)]∧Fr [] h h':=by
 let⟨h1,e_h1,F_h1,o_h1⟩:=aj w [.int .u8 (k:Int),.str tg,.str ky,va,.str tx,vc];let⟨h2,e_h2,F_h2,o_h2⟩:=aj F_h1.wf [.int .i64 0];let⟨h3,e_h3,F_h3,o_h3⟩:=aj F_h2.wf [.int .i64 0];let⟨h4,e_h4,F_h4,o_h4⟩:=aj F_h3.wf [.nilf];have n1:=hnx e_h1;have n2:=hnx e_h2;have n3:=hnx e_h3;refine ac ?_;simp only[evs,seval,←e_h1,←e_h2,←e_h3,←e_h4];refine stu F_h4.wf o_h4 ?_;rintro h5 o5 F5 n5;have F15:Fr [] h1 h5:=Fr.new F_h1.wf (F_h2.then (F_h3.then F_h4)) F5 oO;have ob:=F15.get o_h1;have B:MsB h1 h1.next h2.next h3.next:=⟨F_h1.wf,Nat.le_refl _,oM,oM,oM,oM,oM⟩;have M:Ms h1 h5 h1.next h2.next h3.next 0 0:=⟨F15,F5.own _ _ oO (F_h4.get (F_h3.get o_h2)),F5.own _ _ oO (F_h4.get o_h3),o5,oM⟩;have lw:ag h5 h3.next 0=some (.func (.func 218) [] [.ptr h1.next 0,.ptr h2.next 0,.ptr h3.next 0]):=o5.ld1 0;have A:=(Ji (n.fr F_h1)).1;simp only[evs,seval,lw];apply aa (A h5 h.next 0 h1.next h2.next h3.next 1 0 0 B M (fun h' f=>(f.get o_h1).at6) oM oM);rintro _ h6 ⟨rfl,d,M6⟩;unfold NT.count;cases c:(NT.node k tg ky at' tx sub sub.walk 1 0).2;simp only[evs,seval];apply stu M6.f.wf M6.oc;rintro h7 o7 F7 n7;have od7:=F7.own _ _ oO M6.od;simp only[evs,seval];apply stu F7.wf od7;rintro h8 o8 F8 n8;have a7:ag h8 h1.next 0=some (.int .i64 0):=(F8.own _ _ oO o7).ld1 0;have a8:ag h8 h2.next 0=some (.int .i64 0):=o8.ld1 0;simp only[evs,seval,a7,a8];refine⟨0,iS,?_⟩;exact Fr.new w F_h1 (Fr.trans (T:=[h1.next,h2.next]) (Fr.trans (T:=[h1.next,h2.next]) M6.f F7 F_h1.wf iS iS) F8 F_h1.wf iS iS) oO;have lc:ag h6 h1.next 0=some (.int .i64 ((NT.node k tg ky at' tx sub sub.walk 1 0).1:Int)):=M6.oc.ld1 0;have ld:ag h6 h2.next 0=some (.int .i64 (d:Int)):=M6.od.ld1 0;simp only[evs,seval,eff,lc,ld];apply stu M6.f.wf M6.oc;rintro h7 o7 F7 n7;have od7:=F7.own _ _ oO M6.od;have ld7:ag h7 h2.next 0=some (.int .i64 (d:Int)):=od7.ld1 0;simp only[evs,seval,eff];apply stu F7.wf od7;rintro h8 o8 F8 n8;have a7:ag h8 h1.next 0=some (.int .i64 ((NT.node k tg ky at' tx sub sub.walk 1 0).1:Int)):=(F8.own _ _ oO o7).ld1 0;have a8:ag h8 h2.next 0=some (.int .i64 (d:Int)):=o8.ld1 0;simp only[evs,seval,DF,lc,ld,ld7,a7,a8];refine⟨d,iS,?_⟩;exact Fr.new w F_h1 (Fr.trans (T:=[h1.next,h2.next]) (Fr.trans (T:=[h1.next,h2.next]) M6.f F7 F_h1.wf iS iS) F8 F_h1.wf iS iS) oO
theorem nt{h:Heap}{k:Nat}{tg ky:Str}{at':List (Str×Str)}{tx:Str}{va vc:V}{sub:NT}(w:WF h)(n:NH h (.cons k tg ky at' tx va vc sub .nil)):
 ao go 182 [.agg [.int .u8 (k:Int),.str tg,.str ky,va,.str tx,vc]] h fun u h'=>u=.int .i64 (NT.count k tg ky at' tx sub:Nat)∧Fr [] h h':=by
 let⟨h1,e_h1,F_h1,o_h1⟩:=aj w [.int .u8 (k:Int),.str tg,.str ky,va,.str tx,vc];refine ac ?_;simp only[evs,seval,←e_h1,o_h1.at6.2.2.2.2.2.2];refine aa (yi F_h1.wf (n.fr F_h1)) ?_;rintro _ h2 ⟨d,rfl,F2⟩;simp only[evs,seval];exact F_h1.then F2
theorem sJ{h:Heap}{k:Nat}{tg ky:Str}{at':List (Str×Str)}{tx:Str}{va vc:V}{sub:NT}(w:WF h)(n:NH h (.cons k tg ky at' tx va vc sub .nil)):
 ao go 215 [.agg [.int .u8 (k:Int),.str tg,.str ky,va,.str tx,vc]] h fun u h'=>u=.int .i64 (if NT.count k tg ky at' tx sub=0 then 14 else 0)∧Fr [] h h':=by
 let⟨h1,e_h1,F_h1,o_h1⟩:=aj w [.int .u8 (k:Int),.str tg,.str ky,va,.str tx,vc];by_cases c:NT.count k tg ky at' tx sub=0;refine ac ?_;simp only[evs,seval,←e_h1,o_h1.at6.2.2.2.2.2.2];refine aa (nt F_h1.wf (n.fr F_h1)) ?_;rintro _ h2 ⟨rfl,F2⟩;simp only[evs,seval,(oM:((NT.count k tg ky at' tx sub:Nat):Int)=0)];exact⟨by rw[if_pos c],F_h1.then F2⟩;refine ac ?_;simp only[evs,seval,←e_h1,o_h1.at6.2.2.2.2.2.2];refine aa (nt F_h1.wf (n.fr F_h1)) ?_;rintro _ h2 ⟨rfl,F2⟩;simp only[evs,seval,(oM:¬((NT.count k tg ky at' tx sub:Nat):Int)=0)];exact⟨by rw[if_neg c],F_h1.then F2⟩
theorem yF(z:Str):NT.count 1 z [] [] [] .nil=if okN z then 1 else 0:=by
 have a:ga 1 z [] [] [] .nil=okN z:=by simp[ga,cZ,eT,NT.keys,NT.len]
 have e:NT.node 1 z [] [] [] .nil NT.nil.walk 1 0=(1,okN z):=by unfold NT.node;rw[a];cases okN z<;>rfl
 unfold NT.count;rw[e]
theorem yE(z:Str):NT.count 2 [] [] [] z .nil=if okT z then 1 else 0:=by
 have a:ga 2 [] [] [] z .nil=okT z:=by simp[ga,NT.len]
 have e:NT.node 2 [] [] [] z .nil NT.nil.walk 1 0=(1,okT z):=by unfold NT.node;rw[a];cases okT z<;>rfl
 unfold NT.count;rw[e]
theorem jZ{h:Heap}(k:Nat)(hk:k<256)(tg tx:Str):NH h (.cons k tg [] [] tx .nils .nils .nil .nil):=⟨hk,Recs.nil,iS,⟨rfl,rfl⟩,by simp[NT.len],trivial,trivial⟩
theorem fD{h:Heap}{z:Str}(w:WF h):ao go 202 [.str z] h fun u h'=>u=.bool (okN z)∧Fr [] h h':=by refine ac ?_;simp only[evs,↓reduceIte,Nat.reduceEqDiff];refine aa (sJ (at':=[]) (sub:=.nil) w (jZ 1 oM z [])) ?_;rintro _ h1 ⟨rfl,F⟩;rw[yF];cases okN z;simp only[evs,↓reduceIte];exact⟨rfl,F⟩;simp only[evs,↓reduceIte];exact F
theorem m8{h:Heap}{z:Str}(w:WF h):ao go 200 [.str z] h fun u h'=>u=.bool (okT z)∧Fr [] h h':=by refine ac ?_;simp only[evs,↓reduceIte,Nat.reduceEqDiff];refine aa (sJ (at':=[]) (sub:=.nil) w (jZ 2 oM [] z)) ?_;rintro _ h1 ⟨rfl,F⟩;rw[yE];cases okT z;simp only[evs,↓reduceIte];exact⟨rfl,F⟩;simp only[evs,↓reduceIte];exact F
abbrev Slo:=Str×Nat×Str
def rI(s:Slo):List V:=[.str s.1,.int .u8 (s.2.1:Int),.str s.2.2]
theorem eK(s:Slo):(rI s).length=3:=rfl
def gq(p:Option Str)(s:Slo):Bool:=okN s.1&&(decide (s.2.1≤3)&&(okT s.2.2&&((decide (s.2.1=0)||s.2.2==[])&&bU p s.1)))
def dK:Option Str→List Slo→Bool
 |_,[]=>true
 |p,s::r=>gq p s&&dK (some s.1) r
theorem jr(p:Option Str)(s:Slo)(r:List Slo):dK p (s::r)=(gq p s&&dK (some s.1) r):=rfl
def cN(at':List Slo)(i:Nat):Option Str:=if i=0 then none else(at'[i-1]?).map (·.1)
theorem qc{at':List Slo}{i:Nat}{a:Slo}(h:at'[i]? =some a):cN at' (i+1)=some a.1:=by simp[cN,h]
def bQ(l:List Slo):Bool:=decide (l.length≤8)&&dK none l
theorem pR{h:Heap}{v:V}{l:List Slo}(w:WF h)(ra:Recs rI 3 h v l)(na:l.length≤4096):ao go 222 [v] h fun u h'=>u=.bool (bQ l)∧Fr [] h h':=by
 by_cases c8:l.length≤8
 ·refine ac ?_;simp only[evs,seval,ra.len,(oM:¬(8:Int)<(l.length:Nat))];refine az (fun n env hh=>Fr [] h hh∧∃(i:Nat),env.get 10=some (.int .i64 i)∧env.get 9=some (.int .i64 l.length)∧env.get 8=some v∧env.get 0=some v∧
   i≤l.length∧dK (cN l i) (l.drop i)=dK none l∧n=l.length-i) l.length oM ?_ ?_
  ·exact⟨Fr.refl w,0,iS,iS,iS,iS,oM,rfl,rfl⟩
  ·rintro n env hh ⟨F,i,g103,g102,g101,g0,hi,e,rfl⟩;by_cases hlt:i<l.length
   ·have hlt':(i:Int)<l.length:=oM
    let⟨b',o',a,p1,p2,p3,p4⟩:=(ra.fr F).ix eK .i64 (i:Int) oM hlt';rw[Int.toNat_natCast]at p4;rw[aK p4,jr]at e;have en:=qc p4;have bad:∀{h'},Fr [] h h'→gq (cN l i) a=false→V.bool false=.bool (bQ l)∧Fr [] h h':=fun f c=>by
     rw[c]at e;exact⟨by simp[bQ,←e],f⟩
    let⟨h1,e_h1,F_h1,o_h1⟩:=aj F.wf [.str [],.int .u8 0,.str []];simp only[evs,seval,g103,g102,g101,hlt',p1,p3,←e_h1];refine stu F_h1.wf o_h1 ?_;rintro h2 o2 F2 n2;have F02:Fr [] hh h2:=F_h1.fresh F2 F.wf (Nat.le_refl _);have q0:ag h2 hh.next 0=some (.str a.1):=o2.ld1 0;simp only[evs,seval,eff,q0];refine aa (fD F02.wf) ?_;rintro _ h3 ⟨rfl,F3⟩;have F03:=(F.then F02).then F3;have r1:ag h3 hh.next 1=some (.int .u8 (a.2.1:Int)):=(F3.get o2).ld1 1;have r2:ag h3 hh.next 2=some (.str a.2.2):=(F3.get o2).ld1 2;cases c1:okN a.1
    ·simp only[evs,seval,DF,eff,q0];exact bad F03 (by simp[gq,c1])
    by_cases c2:3<a.2.1
    ·simp only[evs,seval,DF,eff,q0,r1,(oM:(3:Int)<(a.2.1:Nat))];exact bad F03 (by simp[gq];omega)
    have c2':¬(3:Int)<(a.2.1:Nat):=oM
    simp only[evs,seval,eff,r1,c2',r2];refine aa (m8 F3.wf) ?_;rintro _ h4 ⟨rfl,F4⟩;have F04:=F03.then F4;have o4:=F4.get (F3.get o2);have s0:ag h4 hh.next 0=some (.str a.1):=o4.ld1 0;have s1:ag h4 hh.next 1=some (.int .u8 (a.2.1:Int)):=o4.ld1 1;have s2:ag h4 hh.next 2=some (.str a.2.2):=o4.ld1 2;cases c3:okT a.2.2
    ·simp only[evs,seval,DF,eff,q0,r1,r2];exact bad F04 (by simp[gq,c3])
    have fin:(decide (a.2.1=0)||a.2.2==[])=true→bU (cN l i) a.1=true→dK (cN l (i+1)) (l.drop (i+1))=dK none l:=fun x y=>by
     have z:gq (cN l i) a=true:=by
      unfold gq;rw[c1,c3,x,y,(oO:decide (a.2.1≤3)=true)];rfl
     rw[z,Bool.true_and]at e;rw[en];exact e
    by_cases cf:a.2.1=0
    ·by_cases c4:i=0
     ·simp(disch:=omega) only[evs,seval,DF,eff,ab,g103,q0,r1,r2,s1,(oM:¬(0:Int)<(a.2.1:Nat)),(oM:¬(0:Int)<(i:Int))];refine rqn ⟨l.length-(i+1),oM,F04,i+1,iS,iX,iX,iX,oM,fin iX (by simp[cN,c4,bU]),rfl⟩
      done
     ·let⟨b2,o2',a2,t1,t2,t3,t4⟩:=(ra.fr F04).ix eK .i64 ((i:Int)-1) oM oM;have t4':l[i-1]? =some a2:=by rw[←t4];congr 1;omega
      have t2':ag h4 b2 o2'=some (.str a2.1):=t2 0 oM;have pe:cN l i=some a2.1:=by simp[cN,c4,t4']
      cases c5:leS a.1 a2.1
      ·simp(disch:=omega) only[evs,seval,DF,eff,ab,g103,g0,q0,r1,r2,s0,s1,(oM:¬(0:Int)<(a.2.1:Nat)),c5,t1,t2',ke,(oM:(0:Int)<(i:Int))];refine rqn ⟨l.length-(i+1),oM,F04,i+1,iS,iX,iX,iX,oM,fin iX (by rw[pe];simp[bU,c5]),rfl⟩
       done
      ·simp(disch:=omega) only[evs,seval,DF,eff,ab,g0,q0,r1,r2,s0,s1,(oM:¬(0:Int)<(a.2.1:Nat)),c5,t1,t2',ke,(oM:(0:Int)<(i:Int))];exact bad F04 (by simp[gq,pe,bU,c5])
    ·cases cv:a.2.2==[]
     ·simp only[evs,seval,DF,eff,q0,r1,r2,s1,s2,(oM:(0:Int)<(a.2.1:Nat)),aV,cv];exact bad F04 (by simp[gq,cf,cv])
     ·by_cases c4:i=0
      ·simp(disch:=omega) only[evs,seval,DF,eff,ab,g103,q0,r1,r2,s1,s2,(oM:(0:Int)<(a.2.1:Nat)),aV,cv,(oM:¬(0:Int)<(i:Int))];refine rqn ⟨l.length-(i+1),oM,F04,i+1,iS,iX,iX,iX,oM,fin iX (by simp[cN,c4,bU]),rfl⟩
       done
      ·let⟨b2,o2',a2,t1,t2,t3,t4⟩:=(ra.fr F04).ix eK .i64 ((i:Int)-1) oM oM;have t4':l[i-1]? =some a2:=by rw[←t4];congr 1;omega
       have t2':ag h4 b2 o2'=some (.str a2.1):=t2 0 oM;have pe:cN l i=some a2.1:=by simp[cN,c4,t4']
       cases c5:leS a.1 a2.1
       ·simp(disch:=omega) only[evs,seval,DF,eff,ab,g103,g0,q0,r1,r2,s0,s1,s2,(oM:(0:Int)<(a.2.1:Nat)),aV,cv,c5,t1,t2',ke,(oM:(0:Int)<(i:Int))];refine rqn ⟨l.length-(i+1),oM,F04,i+1,iS,iX,iX,iX,oM,fin iX (by rw[pe];simp[bU,c5]),rfl⟩
        done
       ·simp(disch:=omega) only[evs,seval,DF,eff,ab,g0,q0,r1,r2,s0,s1,s2,(oM:(0:Int)<(a.2.1:Nat)),aV,cv,c5,t1,t2',ke,(oM:(0:Int)<(i:Int))];exact bad F04 (by simp[gq,pe,bU,c5])
   ·simp only[evs,seval,g103,g102,(oM:¬(i:Int)<l.length)];rw[List.drop_of_length_le oM]at e;exact⟨by simp[bQ,c8,←e,dK],F⟩
 ·refine ac ?_;simp only[evs,seval,ra.len,(oM:(8:Int)<(l.length:Nat))];exact⟨by simp[bQ,c8],Fr.refl w⟩
set_option maxRecDepth 4000
inductive PT where
 |nil
 |cons (kind:Nat) (tag key:Str) (slots:List Slo) (text:Str) (va vc:V) (sub next:PT)
namespace PT
def len:PT→Nat
 |nil=>0
 |cons _ _ _ _ _ _ _ _ nx=>nx.len+1
def cells:PT→List V
 |nil=>[]
 |cons k tg ky _ tx va vc _ nx=>[.int .u8 (k:Int),.str tg,.str ky,va,.str tx,vc]++nx.cells
def keys:PT→List Str
 |nil=>[]
 |cons _ _ ky _ _ _ _ _ nx=>ky::nx.keys
theorem cells_len:∀t:PT,t.cells.length=t.len*6
 |nil=>rfl
 |cons _ _ _ _ _ _ _ _ nx=>by simp[cells,len,cells_len nx];omega
theorem keys_len:∀t:PT,t.keys.length=t.len
 |nil=>rfl
 |cons _ _ _ _ _ _ _ _ nx=>by simp[keys,len,keys_len nx]
def at':PT→Nat→PT
 |t,0=>t
 |nil,_+1=>nil
 |cons _ _ _ _ _ _ _ _ nx,i+1=>nx.at' i
end PT
def PH(h:Heap):PT→Prop
 |.nil=>True
 |.cons k _ _ at' _ va vc sub nx=>k<256∧Recs rI 3 h va at'∧at'.length≤4096∧Sl h 6 vc sub.len sub.cells∧sub.len≤4096∧PH h sub∧PH h nx
theorem PH.fr{h h':Heap}(f:Fr [] h h'):∀{t:PT},PH h t→PH h' t
 |.nil,_=>trivial
 |.cons _ _ _ _ _ _ _ _ _,⟨a,b,c,d,e,g,i⟩=>⟨a,b.fr f,c,d.fr f,e,PH.fr f g,PH.fr f i⟩
namespace PT
theorem split:∀(t:PT)(i:Nat),i<t.len→∃k tg ky at' tx va vc sub nx,t.at' i=.cons k tg ky at' tx va vc sub nx∧t.cells.drop (i*6)=[.int .u8 ((k:Nat):Int),.str tg,.str ky,va,.str tx,vc]++nx.cells∧t.at' (i+1)=nx∧t.keys.drop i=ky::nx.keys∧t.keys[i]? =some ky∧nx.len+(i+1)=t.len
 |.nil,_,h=>by cases h
 |.cons k tg ky at' tx va vc sub nx,0,_=>⟨k,tg,ky,at',tx,va,vc,sub,nx,rfl,rfl,by cases nx<;>rfl,rfl,rfl,rfl⟩
 |.cons _ _ _ _ _ _ _ _ nx,i+1,h=>by let⟨k,tg,ky,at',tx,va,vc,sub,n,e1,e2,e3,e4,e5,e6⟩:=split nx i (by simp[len]at h;omega);refine⟨k,tg,ky,at',tx,va,vc,sub,n,e1,?_,e3,e4,?_,by simp only[len];omega⟩;rw[(oM:(i+1) *6=6+i*6),←List.drop_drop];exact e2;simpa[keys]using e5
theorem at_end:∀(t:PT)(i:Nat),t.len≤i→t.at' i=.nil
 |.nil,0,_=>rfl
 |.nil,_+1,_=>rfl
 |.cons _ _ _ _ _ _ _ _ nx,0,h=>by simp[len]at h
 |.cons _ _ _ _ _ _ _ _ nx,i+1,h=>at_end nx i (by simp[len]at h;omega)
end PT
theorem PH.at'{h:Heap}:∀{t:PT}(i:Nat),PH h t→PH h (t.at' i)
 |.nil,0,_=>trivial
 |.nil,_+1,_=>trivial
 |.cons _ _ _ _ _ _ _ _ _,0,a=>a
 |.cons _ _ _ _ _ _ _ _ _,i+1,⟨_,_,_,_,_,_,g⟩=>PH.at' i g
def dg(k:Nat)(tg ky:Str)(sl:List Slo)(tx:Str)(n:Nat):Bool:=
 if k=1 then(ky==[]||okN ky)&&(decide (n≤16)&&(okN tg&&(bQ sl&&tx==[])))
 else if k=5 then okN tg&&(bQ sl&&(ky==[]&&(tx==[]&&decide (n=0))))
 else if k=2 then okT tx&&(tg==[]&&(ky==[]&&(decide (sl.length=0)&&decide (n=0))))
 else if k=3∨k=4 then tg==[]&&(ky==[]&&(tx==[]&&(decide (sl.length=0)&&decide (n=0))))
 else false
theorem PH.ones{h:Heap}:∀{t:PT},PH h t→au t.cells=true
 |.nil,_=>rfl
 |.cons k tg ky _ tx va vc _ nx,⟨_,b,_,d,_,_,g⟩=>by show au ([.int .u8 (k:Int),.str tg,.str ky,va,.str tx,vc]++nx.cells)=true;rw[aN,PH.ones g];simp only[av,aF,Sl.one b,Sl.one d];rfl
namespace PT
def node(k:Nat)(tg ky:Str)(at':List Slo)(tx:Str)(sub:PT)(w:Nat→Nat→Nat×Bool)(l c:Nat):Nat×Bool:=
 if 6<l∨64<c+1∨dg k tg ky at' tx sub.len=false then(c+1,false)else w (l+1) (c+1)
def walk:PT→Nat→Nat→Nat×Bool
 |nil,_,c=>(c,true)
 |cons k tg ky at' tx _ _ sub nx,l,c=>let r:=node k tg ky at' tx sub sub.walk l c;if r.2=true then nx.walk l r.1 else r
theorem iF:∀(t:PT)(l c:Nat),c≤64→(t.walk l c).1≤65∧((t.walk l c).2=true→(t.walk l c).1≤64)
 |nil,_,c,h=>⟨by simp[walk];omega,fun _=>h⟩
 |cons k tg ky at' tx _ _ sub nx,l,c,h=>by
  have q:(node k tg ky at' tx sub sub.walk l c).1≤65∧((node k tg ky at' tx sub sub.walk l c).2=true→(node k tg ky at' tx sub sub.walk l c).1≤64):=by unfold node;split;grind;rename_i x;exact iF sub (l+1) (c+1) oM
  simp only[walk];split;rename_i x;exact iF nx l _ (q.2 x);exact q
theorem node_le(k:Nat)(tg ky:Str)(at':List Slo)(tx:Str)(sub:PT)(l c:Nat)(h:c≤64):(node k tg ky at' tx sub sub.walk l c).1≤65∧((node k tg ky at' tx sub sub.walk l c).2=true→(node k tg ky at' tx sub sub.walk l c).1≤64):=by unfold node;split;grind;exact iF sub (l+1) (c+1) oM
end PT
set_option maxRecDepth 4000
theorem AM{h:Heap}{b o k:Nat}{tg ky tx:Str}{sl:List Slo}{va vc:V}{sub:PT}(w:WF h)(hA:∀h',Fr [] h h'→At6 h' b o (.int .u8 (k:Int)) (.str tg) (.str ky) va (.str tx) vc)
 (ra:Recs rI 3 h va sl) (na:sl.length≤4096) (rc:Sl h 6 vc sub.len sub.cells) (nc:sub.len≤4096):
 ao go 214 [.ptr b o] h fun u h'=>u=.bool (dg k tg ky sl tx sub.len)∧Fr [] h h':=by
 have q:=hA h (Fr.refl w);have va1:=Sl.one ra;have vc1:=rc.one;let⟨h1,e_h1,F_h1,o_h1⟩:=aj w [.int .u8 0,.str [],.str [],.nils,.str [],.nils];refine ac ?_;simp only[evs,seval,←e_h1,q.2.2.2.2.2.2];refine ah (c':=[.int .u8 (k:Int),.str tg,.str ky,va,.str tx,vc]) F_h1.wf o_h1 rfl (by simp only[V.cells,av,aF,va1,vc1];rfl) rfl ?_;rintro h2 o2 F2 n2;have F02:Fr [] h h2:=F_h1.fresh F2 w (Nat.le_refl _);let⟨q0,q1,q2,q3,q4,q5,_⟩:=hA h2 F02;have l3:aP .lenS [va]=some (.int .i64 (sl.length:Nat)):=ra.len;have l5:aP .lenS [vc]=some (.int .i64 (sub.len:Nat)):=rc.len;have s1:ag h2 h.next 1=some (.str tg):=o2.ld1 1;have s2:ag h2 h.next 2=some (.str ky):=o2.ld1 2;have s3:ag h2 h.next 3=some va:=o2.ld1 3;have s4:ag h2 h.next 4=some (.str tx):=o2.ld1 4;have s5:ag h2 h.next 5=some vc:=o2.ld1 5;unfold dg;by_cases k1:k=1;rw[if_pos k1];cases ck:ky==[];simp only[evs,seval,q0,(oM:(k:Int)=1),q2,aV,ck];apply aa (fD F2.wf);rintro _ h3 ⟨rfl,F3⟩;have F03:=F02.then F3;cases cn:okN ky;simp only[evs,seval];exact⟨by simp[],F03⟩;have qp:=(hA h3 F03).2.2.2.2.2.1;by_cases cp0:¬sub.len≤16;simp only[evs,seval,qp,l5,(oM:(16:Int)<(sub.len:Nat))];exact⟨by simp[cp0],F03⟩;have cp:sub.len≤16:=oM;simp only[evs,seval,qp,l5,(oM:¬(16:Int)<(sub.len:Nat))];apply stu F3.wf (F3.get o2);rintro he oe Fe ne;simp only[evs,seval];apply stu Fe.wf oe;rintro hf of Ff nf;have Gf:Fr [] h hf:=(F03.fresh Fe w (Nat.le_refl _)).fresh Ff w (Nat.le_refl _);have qa:=(hA hf Gf).2.1;simp only[evs,seval,qa];apply aa (fD Gf.wf);rintro _ ha ⟨rfl,Fa⟩;have G1:=Gf.then Fa;have qb:=(hA ha G1).2.2.2.1;cases c1:okN tg;simp only[evs,seval];exact⟨by simp[cp],G1⟩;simp only[evs,seval,qb];apply aa (pR Fa.wf (ra.fr G1) na);rintro _ hb ⟨rfl,Fb⟩;have G2:=G1.then Fb;cases c2:bQ sl;simp only[evs,seval];exact⟨by simp[cp],G2⟩;simp only[evs,seval];have oa:=Fb.get (Fa.get of);apply stu Fb.wf oa;rintro hc oc Fc nc1;simp only[evs,seval];apply stu Fc.wf oc;rintro hd od Fd nd;have G3:Fr [] h hd:=(G2.fresh Fc w (Nat.le_refl _)).fresh Fd w (Nat.le_refl _);have z1:ag hd h.next 1=some (.str []):=od.ld1 1;have z2:ag hd h.next 2=some (.str []):=od.ld1 2;have z3:ag hd h.next 3=some (.nils):=od.ld1 3;have z4:ag hd h.next 4=some (.str tx):=od.ld1 4;have z5:ag hd h.next 5=some (.nils):=od.ld1 5;cases tX:tx==[];simp only[evs,seval,z1,z2,z4,aJ,(iR:(([]:Str)==[])=true),tX];exact⟨by simp[cp],G3⟩;simp only[evs,seval,z1,z2,z3,z4,z5,aJ,(iR:(([]:Str)==[])=true),tX];exact⟨by simp[cp],G3⟩;have F03:=F02;have qp:=(hA h2 F02).2.2.2.2.2.1;by_cases cp0:¬sub.len≤16;simp only[evs,seval,q0,(oM:(k:Int)=1),q2,aV,ck,qp,l5,(oM:(16:Int)<(sub.len:Nat))];exact⟨by simp[cp0],F02⟩;have cp:sub.len≤16:=oM;simp only[evs,seval,q0,(oM:(k:Int)=1),q2,aV,ck,qp,l5,(oM:¬(16:Int)<(sub.len:Nat))];apply stu F2.wf o2;rintro he oe Fe ne;simp only[evs,seval];apply stu Fe.wf oe;rintro hf of Ff nf;have Gf:Fr [] h hf:=(F02.fresh Fe w (Nat.le_refl _)).fresh Ff w (Nat.le_refl _);have qa:=(hA hf Gf).2.1;simp only[evs,seval,qa];apply aa (fD Gf.wf);rintro _ ha ⟨rfl,Fa⟩;have G1:=Gf.then Fa;have qb:=(hA ha G1).2.2.2.1;cases c1:okN tg;simp only[evs,seval];exact⟨by simp[cp],G1⟩;simp only[evs,seval,qb];apply aa (pR Fa.wf (ra.fr G1) na);rintro _ hb ⟨rfl,Fb⟩;have G2:=G1.then Fb;cases c2:bQ sl;simp only[evs,seval];exact⟨by simp[cp],G2⟩;simp only[evs,seval];have oa:=Fb.get (Fa.get of);apply stu Fb.wf oa;rintro hc oc Fc nc1;simp only[evs,seval];apply stu Fc.wf oc;rintro hd od Fd nd;have G3:Fr [] h hd:=(G2.fresh Fc w (Nat.le_refl _)).fresh Fd w (Nat.le_refl _);have z1:ag hd h.next 1=some (.str []):=od.ld1 1;have z2:ag hd h.next 2=some (.str []):=od.ld1 2;have z3:ag hd h.next 3=some (.nils):=od.ld1 3;have z4:ag hd h.next 4=some (.str tx):=od.ld1 4;have z5:ag hd h.next 5=some (.nils):=od.ld1 5;cases tX:tx==[];simp only[evs,seval,z1,z2,z4,aJ,(iR:(([]:Str)==[])=true),tX];exact⟨by simp[cp],G3⟩;simp only[evs,seval,z1,z2,z3,z4,z5,aJ,(iR:(([]:Str)==[])=true),tX];exact⟨by simp[cp],G3⟩;by_cases k5:k=5;rw[if_neg k1,if_pos k5];have qa:=(hA h2 F02).2.1;simp only[evs,seval,q0,(oM:(k:Int)=5),qa];apply aa (fD F02.wf);rintro _ ha ⟨rfl,Fa⟩;have G1:=F02.then Fa;have qb:=(hA ha G1).2.2.2.1;cases c1:okN tg;simp only[evs,seval];exact⟨by simp[],G1⟩;simp only[evs,seval,qb];apply aa (pR Fa.wf (ra.fr G1) na);rintro _ hb ⟨rfl,Fb⟩;have G2:=G1.then Fb;cases c2:bQ sl;simp only[evs,seval];exact⟨by simp[],G2⟩;simp only[evs,seval];have oa:=Fb.get (Fa.get o2);apply stu Fb.wf oa;rintro hc oc Fc nc1;simp only[evs,seval];apply stu Fc.wf oc;rintro hd od Fd nd;have G3:Fr [] h hd:=(G2.fresh Fc w (Nat.le_refl _)).fresh Fd w (Nat.le_refl _);have z1:ag hd h.next 1=some (.str []):=od.ld1 1;have z2:ag hd h.next 2=some (.str ky):=od.ld1 2;have z3:ag hd h.next 3=some (.nils):=od.ld1 3;have z4:ag hd h.next 4=some (.str tx):=od.ld1 4;have z5:ag hd h.next 5=some (vc):=od.ld1 5;cases tK:ky==[];simp only[evs,seval,z1,z2,aJ,(iR:(([]:Str)==[])=true),tK];exact⟨by simp[],G3⟩;cases tX:tx==[];simp only[evs,seval,z1,z2,z4,aJ,(iR:(([]:Str)==[])=true),tK,tX];exact⟨by simp[],G3⟩;by_cases tP0:¬sub.len=0;simp only[evs,seval,z1,z2,z3,z4,z5,aJ,(iR:(([]:Str)==[])=true),tK,tX,l5,(oM:¬((sub.len:Nat):Int)=0)];exact⟨by simp[tP0],G3⟩;have tP:sub.len=0:=oM;simp only[evs,seval,z1,z2,z3,z4,z5,aJ,(iR:(([]:Str)==[])=true),tK,tX,l5,(oM:((sub.len:Nat):Int)=0)];exact⟨by simp[tP],G3⟩;by_cases k2:k=2;rw[if_neg k1,if_neg k5,if_pos k2];simp only[evs,seval,q0,(oM:(k:Int)=2),q4];apply aa (m8 F2.wf);rintro _ h3 ⟨rfl,F3⟩;have F03:=F02.then F3;cases c1:okT tx;simp only[evs,seval];exact⟨iS,F03⟩;simp only[evs,seval];apply stu F3.wf (F3.get o2);rintro hd od Fd nd;have G3:Fr [] h hd:=F03.fresh Fd w (Nat.le_refl _);have z1:ag hd h.next 1=some (.str tg):=od.ld1 1;have z2:ag hd h.next 2=some (.str ky):=od.ld1 2;have z3:ag hd h.next 3=some (va):=od.ld1 3;have z4:ag hd h.next 4=some (.str []):=od.ld1 4;have z5:ag hd h.next 5=some (vc):=od.ld1 5;cases tT:tg==[];simp only[evs,seval,z1,aJ,tT];exact⟨by simp[],G3⟩;cases tK:ky==[];simp only[evs,seval,z1,z2,aJ,tT,tK];exact⟨by simp[],G3⟩;by_cases tS0:¬sl.length=0;simp only[evs,seval,z1,z2,z3,z4,aJ,(iR:(([]:Str)==[])=true),tT,tK,l3,(oM:¬((sl.length:Nat):Int)=0)];exact⟨by simp[tS0],G3⟩;have tS:sl.length=0:=oM;by_cases tP0:¬sub.len=0;simp only[evs,seval,z1,z2,z3,z4,z5,aJ,(iR:(([]:Str)==[])=true),tT,tK,l3,(oM:((sl.length:Nat):Int)=0),l5,(oM:¬((sub.len:Nat):Int)=0)];exact⟨by simp[tS,tP0],G3⟩;have tP:sub.len=0:=oM;simp only[evs,seval,z1,z2,z3,z4,z5,aJ,(iR:(([]:Str)==[])=true),tT,tK,l3,(oM:((sl.length:Nat):Int)=0),l5,(oM:((sub.len:Nat):Int)=0)];exact⟨by simp[tS,tP],G3⟩;by_cases k34:k=3∨k=4;rw[if_neg k1,if_neg k5,if_neg k2,if_pos k34];by_cases k3:k=3;have G3:=F02;cases tT:tg==[];simp only[evs,seval,q0,(oM:(k:Int)=3),s1,aJ,tT];exact⟨by simp[],G3⟩;cases tK:ky==[];simp only[evs,seval,q0,(oM:(k:Int)=3),s1,s2,aJ,tT,tK];exact⟨by simp[],G3⟩;cases tX:tx==[];simp only[evs,seval,q0,(oM:(k:Int)=3),s1,s2,s4,aJ,tT,tK,tX];exact⟨by simp[],G3⟩;by_cases tS0:¬sl.length=0;simp only[evs,seval,q0,(oM:(k:Int)=3),s1,s2,s3,s4,aJ,tT,tK,tX,l3,(oM:¬((sl.length:Nat):Int)=0)];exact⟨by simp[tS0],G3⟩;have tS:sl.length=0:=oM;by_cases tP0:¬sub.len=0;simp only[evs,seval,q0,(oM:(k:Int)=3),s1,s2,s3,s4,s5,aJ,tT,tK,tX,l3,(oM:((sl.length:Nat):Int)=0),l5,(oM:¬((sub.len:Nat):Int)=0)];exact⟨by simp[tS,tP0],G3⟩;have tP:sub.len=0:=oM;simp only[evs,seval,q0,(oM:(k:Int)=3),s1,s2,s3,s4,s5,aJ,tT,tK,tX,l3,(oM:((sl.length:Nat):Int)=0),l5,(oM:((sub.len:Nat):Int)=0)];exact⟨by simp[tS,tP],G3⟩;have G3:=F02;cases tT:tg==[];simp only[evs,seval,q0,(oM:(k:Int)=4),s1,aJ,tT];exact⟨by simp[],G3⟩;cases tK:ky==[];simp only[evs,seval,q0,(oM:(k:Int)=4),s1,s2,aJ,tT,tK];exact⟨by simp[],G3⟩;cases tX:tx==[];simp only[evs,seval,q0,(oM:(k:Int)=4),s1,s2,s4,aJ,tT,tK,tX];exact⟨by simp[],G3⟩;by_cases tS0:¬sl.length=0;simp only[evs,seval,q0,(oM:(k:Int)=4),s1,s2,s3,s4,aJ,tT,tK,tX,l3,(oM:¬((sl.length:Nat):Int)=0)];exact⟨by simp[tS0],G3⟩;have tS:sl.length=0:=oM;by_cases tP0:¬sub.len=0;simp only[evs,seval,q0,(oM:(k:Int)=4),s1,s2,s3,s4,s5,aJ,tT,tK,tX,l3,(oM:((sl.length:Nat):Int)=0),l5,(oM:¬((sub.len:Nat):Int)=0)];exact⟨by simp[tS,tP0],G3⟩;have tP:sub.len=0:=oM;simp only[evs,seval,q0,(oM:(k:Int)=4),s1,s2,s3,s4,s5,aJ,tT,tK,tX,l3,(oM:((sl.length:Nat):Int)=0),l5,(oM:((sub.len:Nat):Int)=0)];exact⟨by simp[tS,tP],G3⟩;rw[if_neg k1,if_neg k5,if_neg k2,if_neg k34];simp only[evs,seval,q0,(oM:¬(k:Int)=1),(oM:¬(k:Int)=5),(oM:¬(k:Int)=2),(oM:¬(k:Int)=3),(oM:¬(k:Int)=4)];exact F02
structure Tm(h0 h:Heap)(bc bf bw:Nat)(c:Nat):Prop where
 f:Fr [] h0 h
 oc:Own h bc [.int .i64 (c:Int)]
 od:Own h bf [.func (.func 198) [] []]
 ow:Own h bw [.func (.func 213) [] [.ptr bc 0,.ptr bf 0,.ptr bw 0]]
theorem Tm.fr{h0 h h':Heap}{bc bf bw c:Nat}(m:Tm h0 h bc bf bw c)(f:Fr [] h h'):Tm h0 h' bc bf bw c:=⟨m.f.then f,f.get m.oc,f.get m.od,f.get m.ow⟩
def Il(h0:Heap)(k:Nat)(tg ky:Str)(at':List Slo)(tx:Str)(va vc:V)(sub:PT):Prop:=
 ∀(h:Heap)(b o bc bd bw l c:Nat),MsB h0 bc bd bw→Tm h0 h bc bd bw c→(∀h',Fr [] h0 h'→At6 h' b o (.int .u8 (k:Int)) (.str tg) (.str ky) va (.str tx) vc)→l≤7→c≤64→
  ao go 213 [.ptr b o,.int .i64 (l:Int),.ptr bc 0,.ptr bd 0,.ptr bw 0] h fun u h'=>u=.bool (PT.node k tg ky at' tx sub sub.walk l c).2∧Tm h0 h' bc bd bw (PT.node k tg ky at' tx sub sub.walk l c).1
def TAll(h0:Heap):PT→Prop
 |.nil=>True
 |.cons k tg ky at' tx va vc sub nx=>Il h0 k tg ky at' tx va vc sub∧TAll h0 nx
theorem TAll.at'{h:Heap}:∀{t:PT}(i:Nat),TAll h t→TAll h (t.at' i)
 |.nil,0,_=>trivial
 |.nil,_+1,_=>trivial
 |.cons _ _ _ _ _ _ _ _ _,0,a=>a
 |.cons _ _ _ _ _ _ _ _ _,i+1,⟨_,g⟩=>TAll.at' i g
theorem IK{h:Heap}(v:V):ao go 198 [v] h fun u h'=>u=.tup []∧h=h':=by refine ac ?_;simp only[evs]
theorem Cd{h0:Heap}{k:Nat}{tg ky:Str}{at':List Slo}{tx:Str}{va vc:V}{sub:PT}
 (ra:Recs rI 3 h0 va at') (na:at'.length≤4096) (rc:Sl h0 6 vc sub.len sub.cells) (nc:sub.len≤4096) (A:TAll h0 sub):Il h0 k tg ky at' tx va vc sub:=by
 intro h b o bc bd bw l c B M hA hl hc;have lc:ag h bc 0=some (.int .i64 (c:Int)):=M.oc.ld1 0;refine ac ?_;simp(disch:=omega) only[evs,seval,ab,lc];refine stu M.f.wf M.oc ?_;rintro h1 o1 F1 n1;have M2:Tm h0 h1 bc bd bw (c+1):=by refine⟨?_,o1,F1.own _ _ (eV B.cd.symm) M.od,F1.own _ _ (eV B.cw.symm) M.ow⟩;exact Fr.trans M.f F1 B.w (fun x hx=>.inl hx) (fun x hx=>.inr (by simp at hx;subst hx;exact B.c))
 have lc2:ag h1 bc 0=some (.int .i64 ((c+1:Nat):Int)):=M2.oc.ld1 0;by_cases c1:6<l;have e:PT.node k tg ky at' tx sub sub.walk l c=(c+1,false):=if_pos (.inl c1);simp only[evs,seval,(oM:(6:Int)<(l:Int))];rw[e];exact⟨rfl,M2⟩;by_cases c2:64<c+1;have e:PT.node k tg ky at' tx sub sub.walk l c=(c+1,false):=if_pos (.inr (.inl c2));simp only[evs,seval,(oM:¬(6:Int)<(l:Int)),lc2,(oM:(64:Int)<((c+1:Nat):Int))];rw[e];exact⟨rfl,M2⟩;simp only[evs,seval,(oM:¬(6:Int)<(l:Int)),lc2,(oM:¬(64:Int)<((c+1:Nat):Int))];apply aa (AM M2.f.wf (fun h' f=>hA h' (M2.f.then f)) (ra.fr M2.f) na (rc.fr M2.f) nc);rintro _ h3 ⟨rfl,F3⟩;have M3:=M2.fr F3;cases c3:dg k tg ky at' tx sub.len;have e:PT.node k tg ky at' tx sub sub.walk l c=(c+1,false):=if_pos (.inr (.inr c3));simp only[evs,seval];rw[e];exact⟨rfl,M3⟩;have e:PT.node k tg ky at' tx sub sub.walk l c=sub.walk (l+1) (c+1):=if_neg (by simp[c3];omega);rw[e];have q5:=(hA h3 M3.f).2.2.2.2.2.1;have lf:ag h3 bd 0=some (.func (.func 198) [] []):=M3.od.ld1 0;simp only[evs,seval,lf];apply aa (IK _);rintro _ _ ⟨rfl,rfl⟩;simp only[evs,seval,q5,(rc.fr M3.f).len];refine az (fun n env hh=>∃(i c':Nat),Tm h0 hh bc bd bw c'∧env.get 30=some (.int .i64 i)∧env.get 29=some (.int .i64 sub.len)∧env.get 0=some (.ptr b o)∧env.get 1=some (.int .i64 l)∧env.get 4=some (.ptr bw 0)∧
  i≤sub.len∧c'≤64∧(sub.at' i).walk (l+1) c'=sub.walk (l+1) (c+1)∧n=sub.len-i) sub.len oM ?_ ?_
 exact⟨0,c+1,M3,iS,iS,iS,iS,iS,oM,oM,by cases sub<;>rfl,rfl⟩;rintro n env hh ⟨i,c',M',g30,g29,g0,g1,g4,hi,hc',e',rfl⟩;by_cases hlt:i<sub.len;let⟨kd,tg',ky',at2,tx',va',vc',sb,nx,e1,e2,e3,e4,e5,e6⟩:=sub.split i hlt;have hlt':(i:Int)<sub.len:=oM;have a:=A.at' i;rw[e1]at a e';let⟨b',o',p1,_⟩:=(rc.fr M'.f).ix6 hlt e2;have hA':∀h',Fr [] h0 h'→At6 h' b' o' (.int .u8 (kd:Int)) (.str tg') (.str ky') va' (.str tx') vc':=fun h' f=>by let⟨b2,o2,p1',p2'⟩:=(rc.fr f).ix6 hlt e2;rw[p1]at p1';cases p1';exact p2'
 have q5:=(hA hh M'.f).2.2.2.2.2.1;have lw:ag hh bw 0=some (.func (.func 213) [] [.ptr bc 0,.ptr bd 0,.ptr bw 0]):=M'.ow.ld1 0;simp(disch:=omega) only[evs,seval,eff,ab,g30,g29,g0,g1,g4,hlt',lw,q5,p1];apply aa (a.1 hh b' o' bc bd bw (l+1) c' B M' hA' oM hc');rintro _ h4 ⟨rfl,M4⟩;simp only[PT.walk]at e';have nl:=PT.node_le kd tg' ky' at2 tx' sb (l+1) c' hc';cases c4:(PT.node kd tg' ky' at2 tx' sb sb.walk (l+1) c').2;rw[c4]at e';simp only[evs,seval,DF,eff,g4,lw,q5];rw[←e'];exact⟨by simp[c4],by simpa using M4⟩;rw[c4]at e';simp(disch:=omega) only[evs,seval,DF,eff,ab,g30,g4,lw,q5];refine rqn ⟨sub.len-(i+1),oM,i+1,_,M4,iS,iX,iX,iX,iX,oM,nl.2 c4,?_,rfl⟩;rw[e3];simpa using e';simp only[evs,seval,g30,g29,(oM:¬(i:Int)<sub.len)];rw[PT.at_end _ _ oM]at e';rw[←e'];exact⟨rfl,M'⟩
theorem xK{h:Heap}:∀{t:PT},PH h t→TAll h t
 |.nil,_=>trivial
 |.cons _ _ _ _ _ _ _ _ _,⟨_,b,c,d,e,f,g⟩=>⟨Cd b c d e (xK f),xK g⟩
def PT.count(k:Nat)(tg ky:Str)(at':List Slo)(tx:Str)(sub:PT):Nat:=
 if k=1∧(node k tg ky at' tx sub sub.walk 1 0).2=true then(node k tg ky at' tx sub sub.walk 1 0).1 else 0
theorem B9{h:Heap}{k b o:Nat}{tg ky:Str}{at':List Slo}{tx:Str}{va vc:V}{sub:PT}(w:WF h)(n:PH h (.cons k tg ky at' tx va vc sub .nil))
 (hA:∀h',Fr [] h h'→At6 h' b o (.int .u8 (k:Int)) (.str tg) (.str ky) va (.str tx) vc):
 ao go 197 [.ptr b o,.func (.func 198) [] []] h fun u h'=>u=.int .i64 (PT.count k tg ky at' tx sub:Nat)∧Fr [] h h':=by
 let⟨h2,e_h2,F_h2,o_h2⟩:=aj w [.func (.func 198) [] []];have q0:=(hA h2 F_h2).1;by_cases k1:k=1;let⟨h3,e_h3,F_h3,o_h3⟩:=aj F_h2.wf [.int .i64 0];have n2:=hnx e_h2;have n3:=hnx e_h3;refine ac ?_;simp only[evs,seval,←e_h2,q0,(oM:(k:Int)=1),←e_h3];refine stu F_h3.wf o_h3 ?_;rintro h4 o4 F4 n4;let⟨h5,e_h5,F_h5,o_h5⟩:=aj F4.wf [.nilf];simp only[evs,seval,←e_h5];refine stu F_h5.wf o_h5 ?_;rintro h6 o6 F6 n6;have F24:Fr [] h h4:=(F_h2.then F_h3).fresh F4 w oM;have F06:Fr [] h h6:=(F24.then F_h5).fresh F6 w oM;have B:MsB h h2.next h.next h4.next:=⟨w,oM,Nat.le_refl _,oM,oM,oM,oM⟩;have M:Tm h h6 h2.next h.next h4.next 0:=⟨F06,F6.own _ _ oO (F_h5.get o4),F6.own _ _ oO (F_h5.get (F4.own _ _ oO (F_h3.get o_h2))),o6⟩;have lw:ag h6 h4.next 0=some (.func (.func 213) [] [.ptr h2.next 0,.ptr h.next 0,.ptr h4.next 0]):=o6.ld1 0;simp only[evs,seval,lw];refine aa ((xK n).1 h6 b o h2.next h.next h4.next 1 0 B M hA oM oM) ?_;rintro _ h7 ⟨rfl,M7⟩;unfold PT.count;cases c:(PT.node k tg ky at' tx sub sub.walk 1 0).2;simp only[evs,seval];exact⟨iS,M7.f⟩;have lc:ag h7 h2.next 0=some (.int .i64 ((PT.node k tg ky at' tx sub sub.walk 1 0).1:Int)):=M7.oc.ld1 0;simp only[evs,seval,lc];exact⟨by simp[k1],M7.f⟩;refine ac ?_;simp only[evs,seval,←e_h2,q0,(oM:¬(k:Int)=1)];exact⟨by simp[PT.count,k1],F_h2⟩
theorem rY{h:Heap}{k:Nat}{tg ky:Str}{at':List Slo}{tx:Str}{va vc:V}{sub:PT}(w:WF h)(n:PH h (.cons k tg ky at' tx va vc sub .nil)):
 ao go 175 [.agg [.int .u8 (k:Int),.str tg,.str ky,va,.str tx,vc]] h fun u h'=>u=.int .i64 (PT.count k tg ky at' tx sub:Nat)∧Fr [] h h':=by
 let⟨h1,e_h1,F_h1,o_h1⟩:=aj w [.int .u8 (k:Int),.str tg,.str ky,va,.str tx,vc];refine ac ?_;simp only[evs,seval,←e_h1];refine aa (B9 F_h1.wf (n.fr F_h1) (fun h' f=>(f.get o_h1).at6)) ?_;rintro _ h2 ⟨rfl,F2⟩;simp only[evs,seval];exact F_h1.then F2
theorem rZ{h:Heap}{k:Nat}{tg ky:Str}{at':List Slo}{tx:Str}{va vc:V}{sub:PT}(w:WF h)(n:PH h (.cons k tg ky at' tx va vc sub .nil)):
 ao go 142 [.agg [.int .u8 (k:Int),.str tg,.str ky,va,.str tx,vc]] h fun u h'=>u=.int .i64 (if PT.count k tg ky at' tx sub=0 then 14 else 0)∧Fr [] h h':=by
 let⟨h1,e_h1,F_h1,o_h1⟩:=aj w [.int .u8 (k:Int),.str tg,.str ky,va,.str tx,vc];by_cases c:PT.count k tg ky at' tx sub=0;refine ac ?_;simp only[evs,seval,←e_h1,o_h1.at6.2.2.2.2.2.2];refine aa (rY F_h1.wf (n.fr F_h1)) ?_;rintro _ h2 ⟨rfl,F2⟩;simp only[evs,seval,(oM:((PT.count k tg ky at' tx sub:Nat):Int)=0)];exact⟨by rw[if_pos c],F_h1.then F2⟩;refine ac ?_;simp only[evs,seval,←e_h1,o_h1.at6.2.2.2.2.2.2];refine aa (rY F_h1.wf (n.fr F_h1)) ?_;rintro _ h2 ⟨rfl,F2⟩;simp only[evs,seval,(oM:¬((PT.count k tg ky at' tx sub:Nat):Int)=0)];exact⟨by rw[if_neg c],F_h1.then F2⟩
theorem Lg:Hx 201:=⟨dI,fun z h w=>by
 refine ac ?_;simp only[evs,seval];refine aa (fD w) ?_;rintro _ h1 ⟨rfl,F⟩;simp only[evs,seval];exact F⟩
def fQ(x:Itm):Bool:=decide (x.key≠0)&&(okT x.text&&okM x.marks)
theorem u7{h:Heap}{x:Itm}(w:WF h)(a:ItmH h x):ao go 180 [.agg x.cells] h fun u h'=>u=.int .i64 (if fQ x then 0 else 6)∧Fr [] h h':=by let⟨h1,e_h1,F_h1,o_h1⟩:=aj w x.cells;have l0:ag h1 h.next 0=some (.int .u64 (x.key:Int)):=o_h1.ld1 0;have l2:ag h1 h.next 2=some (.str x.text):=o_h1.ld1 2;by_cases c0:x.key=0;refine ac ?_;simp only[evs,seval,←e_h1,l0,(oM:(x.key:Int)=0)];exact⟨by simp[fQ,c0],F_h1⟩;refine ac ?_;simp only[evs,seval,←e_h1,l0,(oM:¬(x.key:Int)=0),l2];apply aa (m8 F_h1.wf);rintro _ h2 ⟨rfl,F2⟩;have F02:=F_h1.then F2;have l3:ag h2 h.next 3=some x.vm:=(F2.get o_h1).ld1 3;cases c2:okT x.text;simp only[evs,seval];exact⟨by simp[fQ,c2],F02⟩;by_cases c3:x.marks.length≤8;simp only[evs,seval,l3,a.m.len,(oM:¬(8:Int)<(x.marks.length:Nat))];apply aa (mF Lg F2.wf (a.m.fr F02) a.n);rintro _ h3 ⟨rfl,F3⟩;cases c4:x.marks.all okN;simp only[evs,seval];exact⟨by simp[fQ,okM,c4],F02.then F3⟩;simp only[evs,seval];exact⟨by simp[fQ,okM,c0,c2,c3,c4],F02.then F3⟩;simp only[evs,seval,l3,a.m.len,(oM:(8:Int)<(x.marks.length:Nat))];exact⟨by simp[fQ,okM,c3],F02⟩
def dec(n:Nat):Str:=if h:n<10 then[UInt8.ofNat (48+n)]else dec (n/10)++[UInt8.ofNat (48+n%10)]
termination_by n
decreasing_by omega
theorem uU{n:Nat}(h:n<10):dec n=[UInt8.ofNat (48+n)]:=by rw[dec,dif_pos h]
theorem yD{n:Nat}(h:¬n<10):dec n=dec (n/10)++[UInt8.ofNat (48+n%10)]:=by rw[dec,dif_neg h]
def c8(b:UInt8):V:=.int .u8 (b.toNat:Int)
theorem xj:∀z:Str,eI (z.map c8)=some z
 |[]=>rfl
 |b::z=>by
  show(match eI (z.map c8)with|some s=>some (UInt8.ofNat ((b.toNat:Int)).toNat::s)|none=>none)=_
  rw[xj z,Int.toNat_natCast,UInt8.ofNat_toNat]
theorem DN:∀d,d<10→aP .ixstr [.str [48,49,50,51,52,53,54,55,56,57],.int .u64 (d:Nat)]=some (c8 (UInt8.ofNat (48+d))):=by
 intro d hd;match d,hd with
 |0,_=>rfl
 |1,_=>rfl
 |2,_=>rfl
 |3,_=>rfl
 |4,_=>rfl
 |5,_=>rfl
 |6,_=>rfl
 |7,_=>rfl
 |8,_=>rfl
 |9,_=>rfl
theorem IG{call:aD}{loc:List V}{env:T V}{h:Heap}(x:Opd)(K:V→Heap→Prop):OQ (aL call loc env h (.b2s x)) K↔∃d,evO loc env x=some d∧VQ (vi h d) K h:=by
 simp only[aL,OQ,VQ];cases evO loc env x with
 |none=>simp
 |some d=>
  simp only[];cases e:vi h d with
  |none=>simp[e]
  |some v=>simp only[];exact⟨fun⟨_,_,q,k⟩=>by cases q;exact⟨d,rfl,_,e,k⟩,fun⟨_,q,_,e',k⟩=>by cases q;rw[e]at e';cases e';exact⟨_,_,rfl,k⟩⟩
theorem D2{h:Heap}(d:V)(K:V→Heap→Prop):(∃e,some d=some e∧VQ (vi h e) K h)↔VQ (vi h d) K h:=⟨fun⟨_,e,k⟩=>by cases e;exact k,fun k=>⟨d,rfl,k⟩⟩
theorem lD{h:Heap}{n:Nat}(w:WF h)(hn:n<18446744073709551616):ao go 205 [.int .u64 (n:Int)] h fun u h'=>u=.str (dec n)∧Fr [] h h':=by
 let⟨h1,e_h1,F_h1,o_h1⟩:=aj w [.int .u8 0,.int .u8 0,.int .u8 0,.int .u8 0,.int .u8 0,.int .u8 0,.int .u8 0,.int .u8 0,.int .u8 0,.int .u8 0,.int .u8 0,.int .u8 0,.int .u8 0,.int .u8 0,.int .u8 0,.int .u8 0,.int .u8 0,.int .u8 0,.int .u8 0,.int .u8 0];refine ac ?_;simp only[evs,←e_h1];refine az (fun k env hh=>Fr [] h hh∧∃(i m:Nat)(acc:Str)(C:List V),env.get 4=some (.int .i64 i)∧env.get 0=some (.int .u64 m)∧env.get 3=some (.ptr h.next 0)∧Own hh h.next C∧
  C.length=20∧C.drop i=acc.map c8∧0<i∧i≤20∧m<10^i∧dec n=dec m++acc∧m<18446744073709551616∧k=i) 20 oM ?_ ?_
 exact⟨F_h1,20,n,[],_,iS,iS,iS,o_h1,rfl,rfl,oM,oM,oM,iS,hn,rfl⟩;rintro k env hh ⟨F,i,m,acc,C,g4,g0,g3,oC,hC,hd,i0,i20,hm,e,hm2,hk⟩;have r1:aP (.ib .rem) [.int .u64 (m:Int),.int .u64 10]=some (.int .u64 ((m%10:Nat):Int)):=by rw[iW _ _ _ dI];rfl
 have r2:aP (.ib .quo) [.int .u64 (m:Int),.int .u64 10]=some (.int .u64 ((m/10:Nat):Int)):=by rw[qY _ _ _ dI,(iR:((m:Int)).tdiv 10=((m/10:Nat):Int)),bH _ oM oM]
 have r3:=DN (m%10) (Nat.mod_lt _ oM);obtain⟨j,rfl⟩:∃j,i=j+1:=⟨i-1,oM⟩;have r4:=gX 1 h.next 0 20 .i64 ((j:Int)) oM oM;simp only[Int.toNat_natCast,Nat.mul_one,Nat.zero_add]at r4;simp(disch:=omega) only[evs,seval,ab,g4,g0,g3,r1,r3,(oM:(((j+1:Nat):Int)-1)=(j:Int)),r4];refine ah (c':=C.set j (c8 (UInt8.ofNat (48+m%10)))) F.wf oC rfl rfl (fC C j _ oM) ?_;rintro h2 o2 F2 n2;have F02:Fr [] h h2:=F.fresh F2 w (Nat.le_refl _);have hd2:(C.set j (c8 (UInt8.ofNat (48+m%10)))).drop j=(UInt8.ofNat (48+m%10)::acc).map c8:=by rw[List.set_eq_take_append_cons_drop,if_pos oM,hd,List.drop_append_of_le_length oO];rw[List.drop_of_length_le oO];rfl
 by_cases c:m/10=0;have e2:dec n=UInt8.ofNat (48+m%10)::acc:=by rw[e,uU oM,(oM:m%10=m)];rfl
 have s1:aP (.sl (some 20) 1 true false false) [.ptr h.next 0,.int .i64 (j:Int)]=some (.slice h.next j (20-j) (20-j)):=by simp only[aP,qW,aU,bN .i64 (j:Int) 20 oM oM,Option.map_some,Option.getD_none,ew (oM:(20:Nat)≠j),cond_false,Int.toNat_natCast,Nat.zero_add,Nat.mul_one]
 have s2:vi h2 (.slice h.next j (20-j) (20-j))=some (.str (dec n)):=by
  have:ai h2 h.next j (20-j)=some ((UInt8.ofNat (48+m%10)::acc).map c8):=by rw[o2.ld,bS,bP _ _ oO,List.take_of_length_le oO,hd2]
  simp only[vi,this,xj,Option.map_some,e2]
 simp only[evs,seval,r2,g0,g3,(oM:((m/10:Nat):Int)=0),s1,IG,D2,s2];exact F02;have e2:dec n=dec (m/10)++UInt8.ofNat (48+m%10)::acc:=by rw[e,yD oM];simp
 have j0:0<j:=by obtain z|z:=Nat.eq_zero_or_pos j;subst z;simp at hm;omega;exact z
 simp only[evs,seval,r2,g0,(oM:¬((m/10:Nat):Int)=0)];refine rqn ⟨j,oM,F02,j,m/10,_,_,iS,iS,iX,o2,by simp[hC],hd2,j0,oM,by rw[Nat.pow_succ]at hm;omega,e2,oM,rfl⟩
 done
def xn(x:Itm)(s:Slo):Str:=if s.2.1=0 then s.2.2 else if s.2.1=1 then x.text else if s.2.1=2 then dec x.key else dec x.marks.length
def att(x:Itm)(s:Slo):Str×Str:=(s.1,xn x s)
theorem lK{h:Heap}{z:Str}(w:WF h):ao go 204 [.str z] h fun u h'=>u=.agg [.int .u8 2,.str [],.str [],.nils,.str z,.nils]∧Fr [] h h':=by let⟨h1,e_h1,F_h1,o_h1⟩:=aj w [.int .u8 0,.str [],.str [],.nils,.str [],.nils];refine ac ?_;simp only[evs,seval,←e_h1];refine stu F_h1.wf o_h1 ?_;rintro h2 o2 F2 n2;have l:=o2.at6.2.2.2.2.2.2;simp only[evs,seval,l];exact F_h1.fresh F2 w (Nat.le_refl _)
theorem D5{h:Heap}{x:Itm}{v:V}{l:List Slo}(w:WF h)(a:ItmH h x)(r:Recs rI 3 h v l)(nl:l.length≤4096)(h3:∀s∈l,s.2.1≤3):
 ao go 216 [.agg x.cells,v] h fun u h'=>∃b,h.next≤b∧TbC 2 h' u b ((l.map (att x)).flatMap eQ) l.length∧Fr [] h h':=by
 have kx:=a.k;have nx:=a.n;let⟨h1,e_h1,F_h1,o_h1⟩:=aj w x.cells;have n1:=hnx e_h1;refine ac ?_;simp only[evs,seval,←e_h1,r.len];refine(bX _ _ _ _ _ _ _ _ oM oM oM oM).2 ?_;simp only[Int.toNat_natCast];obtain⟨h2,e_h2⟩:∃h2,h2=halloc h1 (bq [.str [],.str []] l.length):=⟨_,rfl⟩;have F_h2:Fr [] h1 h2:=e_h2▸Fr.halloc F_h1.wf _;have o_h2:Own h2 h1.next (bq [.str [],.str []] l.length):=e_h2▸Own.new F_h1.wf _;have ln:(bq [V.str [],V.str []] l.length).length=l.length*2:=fP _ _;rw[←e_h2];clear e_h2;generalize bq [V.str [],V.str []] l.length=Z at ln o_h2;simp only[evs,seval,r.len];refine az (fun n env hh=>Fr [] h hh∧Fr [] h1 hh∧∃(i:Nat)(C:List V),env.get 13=some (.int .i64 i)∧env.get 12=some (.int .i64 l.length)∧env.get 11=some v∧env.get 5=some (.slice h1.next 0 l.length l.length)∧env.get 2=some (.ptr h.next 0)∧
  i≤l.length∧Own hh h1.next C∧C.length=l.length*2∧C.take (i*2)=((l.take i).map (att x)).flatMap eQ∧n=l.length-i) l.length oM ?_ ?_
 ·exact⟨F_h1.then F_h2,F_h2,0,Z,iS,iS,iS,iS,iS,oM,o_h2,ln,iS,rfl⟩
 ·rintro n env hh ⟨F,F1,i,C,g13,g12,g11,g5,g2,hi,oC,lC,eC,rfl⟩;by_cases hlt:i<l.length
  ·have hlt':(i:Int)<l.length:=oM
   let⟨b',o',s,p1,p2,p3,p4⟩:=(r.fr F).ix eK .i64 (i:Int) oM hlt';rw[Int.toNat_natCast]at p4;have s3:=h3 s (List.mem_of_getElem? p4);let⟨h3,e_h3,F_h3,o_h3⟩:=aj F.wf [.str [],.int .u8 0,.str []];simp only[evs,seval,g13,g12,g11,hlt',p1,p3,←e_h3];apply stu F_h3.wf o_h3;rintro h4 o4 F4 n4;have F04:Fr [] hh h4:=F_h3.fresh F4 F.wf (Nat.le_refl _);have ox:=F04.get (F1.get o_h1);have u0:ag h4 hh.next 0=some (.str s.1):=o4.ld1 0;have u1:ag h4 hh.next 1=some (.int .u8 (s.2.1:Int)):=o4.ld1 1;have u2:ag h4 hh.next 2=some (.str s.2.2):=o4.ld1 2;have x0:ag h4 h.next 0=some (.int .u64 (x.key:Int)):=ox.ld1 0;have x2:ag h4 h.next 2=some (.str x.text):=ox.ld1 2;have x3:ag h4 h.next 3=some x.vm:=ox.ld1 3;simp only[evs,seval,eff,g5,g2,u0,u2,x2,x0];apply aa (lD F04.wf kx);rintro _ h5 ⟨rfl,F5⟩;have v0:ag h5 hh.next 0=some (.str s.1):=(F5.get o4).ld1 0;have v1:ag h5 hh.next 1=some (.int .u8 (s.2.1:Int)):=(F5.get o4).ld1 1;have v2:ag h5 hh.next 2=some (.str s.2.2):=(F5.get o4).ld1 2;have y2:ag h5 h.next 2=some (.str x.text):=(F5.get ox).ld1 2;have y3:ag h5 h.next 3=some x.vm:=(F5.get ox).ld1 3;have cv:bD .u64 (x.marks.length:Int)=(x.marks.length:Int):=bH _ oM oM;simp only[evs,seval,eff,g2,y3,a.m.len,cv];apply aa (lD F5.wf oM);rintro _ h6 ⟨rfl,F6⟩;have F06:=(F04.then F5).then F6;have w0:ag h6 hh.next 0=some (.str s.1):=(F6.get (F5.get o4)).ld1 0;have w1:ag h6 hh.next 1=some (.int .u8 (s.2.1:Int)):=(F6.get (F5.get o4)).ld1 1;have w2:ag h6 hh.next 2=some (.str s.2.2):=(F6.get (F5.get o4)).ld1 2;have z2:ag h6 h.next 2=some (.str x.text):=(F6.get (F5.get ox)).ld1 2;have z3:ag h6 h.next 3=some x.vm:=(F6.get (F5.get ox)).ld1 3;have pk:aP (.ixarr 4 1 false) [.agg [.str s.2.2,.str x.text,.str (dec x.key),.str (dec x.marks.length)],.int .u8 (s.2.1:Int)]=some (.str (xn x s)):=by
    rw[xx _ _ _ _ oM];have:s.2.1=0∨s.2.1=1∨s.2.1=2∨s.2.1=3:=oM
    obtain e|e|e|e:=this<;>(rw[e];simp only[xn,e];rfl)
   have ix:=cL 2 h1.next 0 l.length l.length .i64 (i:Int) oM hlt';simp only[Int.toNat_natCast,Nat.zero_add]at ix;simp only[evs,seval,eff,w1,pk,ix];refine ah (c':=C.take (i*2)++eQ (att x s)++C.drop (i*2+2)) F6.wf (F06.get oC) rfl rfl (dp C (i*2) (eQ (att x s)) (by show i*2+2≤C.length;omega)) ?_;rintro h7 o7 F7 n7;have F17:Fr [] h h7:=(F.then F06).fresh F7 w oM;have F27:Fr [] h1 h7:=(F1.then F06).fresh F7 F_h1.wf (Nat.le_refl _);have fin:(C.take (i*2)++eQ (att x s)++C.drop (i*2+2)).take ((i+1) *2)=((l.take (i+1)).map (att x)).flatMap eQ:=by
    have:(C.take (i*2)++eQ (att x s)).length=(i+1) *2:=by rw[List.length_append,dG,List.length_take];omega
    rw[←this,List.take_left,eC,List.take_add_one,p4];simp
   simp(disch:=omega) only[evs,seval,DF,ab,g13,u0,u1,u2,x0,x2,x3,v0,v1,v2,y2,y3,w0,w1,w2,z2];refine rqn ⟨l.length-(i+1),oM,F17,F27,i+1,_,iS,iX,iX,iX,iX,oM,o7,by simp[eQ];omega,fin,rfl⟩
   done
  ·simp only[evs,seval,g13,g12,g5,(oM:¬(i:Int)<l.length)];rw[List.take_of_length_le oM,List.take_of_length_le oM]at eC;subst eC;exact⟨h1.next,oM,⟨by rw[lC],.inr ⟨rfl,oC⟩⟩,F⟩
theorem qL{e:Nat}{h:Heap}{v:V}{n:Nat}{cs:List V}(he:0<e)(a:Sl h e v n cs)(hv:v≠.sliceE):
 ∃u,aP (.sl none e false true true) [v,.int .i64 (n:Int),.int .i64 (n:Int)]=some u∧Sl h e u n cs∧u≠.sliceE:=by
 let⟨hl,a⟩:=a;have q:∀y,n≤y→aU n y false true true [.int .i64 (n:Int),.int .i64 (n:Int)]=some (0,n,some n):=fun y hy=>by simp only[aU,bN .i64 (n:Int) y oM oM,bN .i64 (n:Int) n oM oM,Option.bind_some,Option.map_some,Int.toNat_natCast]
 cases v with
 |nils=>have a:n=0:=a;subst a;exact⟨.nils,by simp only[aP,dZ,q 0 (Nat.le_refl _),Option.map_some],⟨hl,rfl⟩,iS⟩
 |slice b o len cap=>obtain⟨rfl,h2,c,hc,h3,e3⟩:=a;refine⟨.slice b (bif Nat.beq len 0 then o else o+0*e) (len-0) (len-0),by simp only[aP,dZ,q cap h2,Option.map_some,Option.getD_some],⟨hl,rfl,Nat.le_refl _,c,hc,?_⟩,iS⟩;by_cases c0:len=0;grind;grind
 |sliceU b o len e'=>obtain⟨rfl,rfl,c,hc,h3,e3⟩:=a;refine⟨.slice b (bif Nat.beq len 0 then o else o+0*e') (len-0) (len-0),by simp only[aP,dZ,nO (rfl:e'=e'),(Nat.blt_eq ..).mpr he,Bool.and_self,cond_true,q len (Nat.le_refl _),Option.bind_some],⟨hl,rfl,Nat.le_refl _,c,hc,?_⟩,iS⟩;by_cases c0:len=0;grind;grind
 |sliceE=>exact absurd rfl hv
 |_=>exact a.elim
theorem DR{h:Heap}{v:V}{n:Nat}{cs:List V}(a:Sl h 6 v n cs)(hv:v≠.sliceE):ao go 217 [v] h fun u h'=>(∀h2,Sl h2 6 v n cs→Sl h2 6 u n cs)∧u≠.sliceE∧h=h':=by let⟨u,e,s,ne⟩:=qL oM a hv;refine ac ?_;simp only[evs,seval,a.len,e];refine⟨fun h2 a2=>?_,ne⟩;let⟨u2,e2,s2,_⟩:=qL oM a2 hv;rw[e]at e2;cases e2;exact s2
theorem qE{h:Heap}{x:Itm}{v:V}{k:Nat}{tg ky tx key:Str}{l:List Slo}{vs vp:V}{n:Nat}{cs:List V}(w:WF h)(a:ItmH h x)(r:Recs rI 3 h vs l)(nl:l.length≤4096)(h3:∀s∈l,s.2.1≤3)
 (vp1:vp.one=true) (c:Sl h 6 v n cs) (hv:v≠.sliceE):
 ao go 203 [.agg x.cells,.agg [.int .u8 (k:Int),.str tg,.str ky,vs,.str tx,vp],.str key,v] h fun u h'=>∃va vc ba,u=.agg [.int .u8 1,.str tg,.str key,va,.str [],vc]∧h.next≤ba∧TbC 2 h' va ba ((l.map (att x)).flatMap eQ) l.length∧(∀h2,Sl h2 6 v n cs→Sl h2 6 vc n cs)∧vc.one=true∧Fr [] h h':=by
 let⟨h1,e_h1,F_h1,o_h1⟩:=aj w x.cells;let⟨h2,e_h2,F_h2,o_h2⟩:=aj F_h1.wf [.int .u8 (k:Int),.str tg,.str ky,vs,.str tx,vp];let⟨h3',e_h3',F_h3',o_h3'⟩:=aj F_h2.wf [.int .u8 0,.str [],.str [],.nils,.str [],.nils];have n1:=hnx e_h1;have n2:=hnx e_h2;have F03:=(F_h1.then F_h2).then F_h3';have ox:=F_h3'.get (F_h2.get o_h1);have op:=F_h3'.get o_h2;have t1:ag h3' h1.next 1=some (.str tg):=op.ld1 1;have t3:ag h3' h1.next 3=some vs:=op.ld1 3;have x4:ai h3' h.next 0 4=some x.cells:=by rw[ox.ld];rfl
 refine ac ?_;simp only[evs,seval,eff,←e_h1,←e_h2,←e_h3',t1,t3,x4];refine aa (D5 F_h3'.wf (a.fr F03) (r.fr F03) nl h3) ?_;rintro va h4 ⟨ba,hba,ta,F4⟩;have t1':ag h4 h1.next 1=some (.str tg):=(F4.get op).ld1 1;simp only[evs,seval,eff];apply aa (DR (c.fr (F03.then F4)) hv);rintro vc _ ⟨scA,_,rfl⟩;have sc:=scA _ (c.fr (F03.then F4));simp only[evs,seval,eff,aG ta.one,aG sc.one];refine ah (c':=[.int .u8 1,.str tg,.str key,va,.str [],vc]) F4.wf (F4.get o_h3') rfl (by simp only[V.cells,av,aF,ta.one,sc.one];rfl) rfl ?_;rintro h5 o5 F5 n5;have l6:=o5.at6.2.2.2.2.2.2;have F05:Fr [] h h5:=(F03.then F4).fresh F5 w oM;simp only[evs,seval,DF,t1,t1',t3,x4,l6];have n3:=hnx e_h3';exact⟨va,vc,ba,rfl,oM,ta.fr F5 oO,scA,sc.one,F05⟩
end Go.Ev.Lay
