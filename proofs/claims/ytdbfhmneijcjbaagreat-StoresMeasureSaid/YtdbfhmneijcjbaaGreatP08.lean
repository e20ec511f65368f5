/- An evaluator of the program, and contracts over it: StE to StU. -/
import Derived.Laws.RangeString
import Derived.Laws.RangeAny
import Derived.Test.YtdbfhmneijcjbaaGreatP04
import Derived.Test.YtdbfhmneijcjbaaGreatP07
set_option linter.unusedSimpArgs false
set_option linter.unusedVariables false
set_option linter.constructorNameAsVariable false
namespace Go.Ev.Lay
open Go.Ev.St
set_option maxRecDepth 4000
structure KmT(h:Heap)(b S:Nat)(v:V)(sl:List aS)(m:Nat→Option Nat)(c t:Nat):Prop where
 ob:Own h b [v,.int .i64 (c:Int),.int .i64 (t:Int)]
 tb:Tb h v S sl
 op:Opn mix sl
 n8:8≤sl.length
 nb:sl.length≤20000
 c1:cnS 1 sl=c
 c2:cnS 2 sl=t
 mp:∀k x:Nat,m k=some x↔∃i:Nat,sl[i]? =some (1,k,x)
 kb:∀s∈sl,s.2.1<18446744073709551616∧s.2.2<4611686018427387904
def Km(h:Heap)(b S:Nat)(m:Nat→Option Nat)(c:Nat):Prop:=
 (Own h b [.nils,.int .i64 0,.int .i64 0]∧c=0∧∀k,m k=none)∨∃v sl t,KmT h b S v sl m c t∧4*(c+t)≤3*sl.length
theorem KmT.fr{h h':Heap}{b S:Nat}{v:V}{sl:List aS}{m:Nat→Option Nat}{c t:Nat}(k:KmT h b S v sl m c t)(f:Fr [] h h'):KmT h' b S v sl m c t:={k with ob:=f.get k.ob,tb:=k.tb.fr f}
theorem Km.fr{h h':Heap}{b S:Nat}{m:Nat→Option Nat}{c:Nat}(k:Km h b S m c)(f:Fr [] h h'):Km h' b S m c:=by
 rcases k with⟨o,x⟩|⟨v,sl,t,k,x⟩
 ·exact .inl ⟨f.get o,x⟩
 ·exact .inr ⟨v,sl,t,k.fr f,x⟩
theorem KmT.sum{h:Heap}{b S:Nat}{v:V}{sl:List aS}{m:Nat→Option Nat}{c t:Nat}(k:KmT h b S v sl m c t):cnS 0 sl+c+t=sl.length:=by
 have:=xi k.op.st;rw[k.c1,k.c2]at this;exact this
theorem KmT.ne{h:Heap}{b S:Nat}{v:V}{sl:List aS}{m:Nat→Option Nat}{c t:Nat}(k:KmT h b S v sl m c t):b≠S:=by
 rintro rfl;have e:=k.ob.uniq k.tb.2;have:=congrArg List.length e;rw[mb]at this;have:=k.n8;simp at *;omega
theorem KmT.some_c{h:Heap}{b S:Nat}{v:V}{sl:List aS}{m:Nat→Option Nat}{c t:Nat}(k:KmT h b S v sl m c t){key x:Nat}(e:m key=some x):0<c:=by
 obtain⟨i,hi⟩:=(k.mp key x).1 e;rw[←k.c1];unfold cnS;rw[List.countP_pos_iff];exact⟨_,List.mem_of_getElem? hi,by simp⟩
theorem Df{h:Heap}(w:WF h):ao go 42 [] h fun u h'=>∃b,u=.ptr b 0∧h.next≤b∧Km h' b b (fun _=>none) 0∧Fr [] h h':=by
 refine ag g42 rfl ?_;simp only[fn42,evs,↓reduceIte];exact⟨_,rfl,Nat.le_refl _,.inl ⟨Own.new w _,rfl,fun _=>rfl⟩,Fr.halloc w _⟩
theorem Dg{h:Heap}{b S:Nat}{m:Nat→Option Nat}{c:Nat}(k:Km h b S m c):ao go 107 [.ptr b 0] h fun u h'=>u=.int .i64 (c:Int)∧h'=h:=by
 have q:ab h b 1=some (.int .i64 (c:Int)):=by
  rcases k with⟨o,rfl,_⟩|⟨v,sl,t,k,_⟩
  ·exact o.ld1 1
  ·exact k.ob.ld1 1
 refine ag g107 rfl ?_;simp only[fn107,evs,↓reduceIte,Nat.reduceEqDiff,q]
def kE(o:Option Nat):V:=match o with
 |some x=>.tup [.int .i64 (x:Int),.bool true]
 |none=>.tup [.int .i64 0,.bool false]
theorem sg{h:Heap}{b S key:Nat}{m:Nat→Option Nat}{c:Nat}(w:WF h)(k:Km h b S m c)(hk:key<18446744073709551616):ao go 51 [.ptr b 0,.int .u64 (key:Int)] h fun u h'=>u=kE (m key)∧Fr [] h h':=by
 have k0:=k;refine ag g51 rfl ?_;simp only[fn51,evs,↓reduceIte,Nat.reduceEqDiff,Nat.reduceAdd];refine aa (Dg k) ?_;rintro _ _ ⟨rfl,hh⟩;replace hh:=hh.symm;subst hh;by_cases hc:(c:Int)=0
 ·have e:m key=none:=by
   rcases k with⟨o,_,h1⟩|⟨v,sl,t,k,_⟩
   ·exact h1 key
   ·cases e:m key with
    |none=>rfl
    |some x=>have:=k.some_c e;omega
  rw[e];simp only[evs,↓reduceIte,Nat.reduceEqDiff,hc];exact⟨rfl,Fr.refl w⟩
 ·rcases k with⟨o,h0,h1⟩|⟨v,sl,t,k,_⟩
  ·exact absurd (by omega) hc
  ·simp only[evs,↓reduceIte,Nat.reduceEqDiff,eq_false hc];refine aa (mQ w k.ob k.tb k.op (by have:=k.nb;omega) hk) ?_;rintro _ h2 ⟨at',found,rfl,L,F⟩;cases found
   ·have e:m key=none:=by
     cases e:m key with
     |none=>rfl
     |some x=>obtain⟨i,hi⟩:=(k.mp key x).1 e;exact absurd hi ((L.no rfl).1 i x)
    rw[e];simp only[evs,↓reduceIte,Nat.reduceEqDiff];exact⟨rfl,F⟩
   ·obtain⟨x,hx⟩:=L.yes rfl;have e:m key=some x:=(k.mp key x).2 ⟨_,hx⟩;have k2:=k.fr F;have ix:=k2.tb.ix _ L.lt;have l0:ab h2 b 0=some v:=k2.ob.ld1 0;have l2:ab h2 S (at'*3+2)=some (.int .i64 (x:Int)):=by
     obtain⟨b1,o1,y,e1,e2,_,e4⟩:=Recs.ix nD k2.tb.recs .i64 (at':Nat) (by omega) (by have:=L.lt;omega);rw[ix]at e1;obtain⟨rfl,rfl⟩:S=b1∧at'*3=o1:=by simpa using e1
     simp only[Int.toNat_natCast]at e4;rw[hx]at e4;cases e4;exact(e2 2 (by omega)).trans rfl
    rw[e];simp only[evs,↓reduceIte,Nat.reduceEqDiff,l0,ix,l2];exact⟨rfl,F⟩
theorem kF(x:aS):∀(sl:List aS)(i:Nat),i<sl.length→bo (sl.flatMap sc) (i*3) (sc x)=some ((sl.set i x).flatMap sc)
 |[],i,h=>by simp at h
 |y::l,0,_=>by
  show bo (V.int .u8 (y.1:Int)::V.int .u64 (y.2.1:Int)::V.int .i64 (y.2.2:Int)::l.flatMap sc) 0 [V.int .u8 (x.1:Int),V.int .u64 (x.2.1:Int),V.int .i64 (x.2.2:Int)]=_;rw[aQ,aQ,aQ,iY];rfl
 |y::l,i+1,h=>by
  have ih:=kF x l i (by simpa using h);rw[show(i+1) *3=i*3+1+1+1 by omega];show bo (V.int .u8 (y.1:Int)::V.int .u64 (y.2.1:Int)::V.int .i64 (y.2.2:Int)::l.flatMap sc) (i*3+1+1+1) (sc x)=_;rw[aX,aX,aX,ih];rfl
theorem qA(k v v':Nat):∀(sl:List aS)(i:Nat),sl[i]? =some (1,k,v)→bo (sl.flatMap sc) (i*3+2) [V.int .i64 (v':Int)]=some ((sl.set i (1,k,v')).flatMap sc)
 |[],i,h=>by simp at h
 |y::l,0,h=>by
  simp at h;subst h;show bo (V.int .u8 ((1:Nat):Int)::V.int .u64 (k:Int)::V.int .i64 (v:Int)::l.flatMap sc) (0+1+1) [V.int .i64 (v':Int)]=_;rw[aX,aX,aQ,iY];rfl
 |y::l,i+1,h=>by
  have ih:=qA k v v' l i (by simpa using h);rw[show(i+1) *3+2=i*3+2+1+1+1 by omega];show bo (V.int .u8 (y.1:Int)::V.int .u64 (y.2.1:Int)::V.int .i64 (y.2.2:Int)::l.flatMap sc) (i*3+2+1+1+1) [V.int .i64 (v':Int)]=_;rw[aX,aX,aX,ih];rfl
theorem Tb.put{h h1:Heap}{v:V}{S i:Nat}{sl:List aS}{x:aS}(t:Tb h v S sl)(o:Own h1 S ((sl.set i x).flatMap sc)):Tb h1 v S (sl.set i x):=⟨by rw[List.length_set];exact t.1,o⟩
theorem jS{sl:List aS}{i:Nat}{x:aS}(kb:∀s∈sl,s.2.1<18446744073709551616∧s.2.2<4611686018427387904)(hx:x.2.1<18446744073709551616∧x.2.2<4611686018427387904):∀s∈sl.set i x,s.2.1<18446744073709551616∧s.2.2<4611686018427387904:=by
 intro s hs;rcases List.mem_or_eq_of_mem_set hs with h|rfl
 ·exact kb s h
 ·exact hx
theorem Ea{sl:List aS}(h:2≤cnS 0 sl)(a:Nat):∃(i:Nat)(s:aS),i≠a∧sl[i]? =some s∧s.1=0:=by
 by_cases ha:a<sl.length
 ·have e:=gU (c:=0) (x:=((1,0,0):aS)) (List.getElem?_eq_getElem ha);have h2:0<cnS 0 (sl.set a (1,0,0)):=by
   simp only[Nat.one_ne_zero,if_false]at e;split at e<;>omega
  obtain⟨i,s,hi,hs⟩:=uN (n:=0) h2;rcases dq _ _ _ _ _ hi with⟨_,rfl,_⟩|⟨ci,hi⟩
  ·cases hs
  ·exact⟨i,s,ci,hi,hs⟩
 ·obtain⟨i,s,hi,hs⟩:=uN (n:=0) (sl:=sl) (by omega);have:=(List.getElem?_eq_some_iff.1 hi).1;exact⟨i,s,by omega,hi,hs⟩
theorem oW{c i:Nat}{sl:List aS}{s:aS}(h:sl[i]? =some s):cnS c (sl.take (i+1))=cnS c (sl.take i)+(if s.1=c then 1 else 0):=by
 unfold cnS;rw[List.take_add_one,h,List.countP_append];simp[List.countP_cons]
theorem uM(c i:Nat)(sl:List aS):cnS c (sl.take i)≤cnS c sl:=by
 unfold cnS;exact List.Sublist.countP_le (List.take_sublist i sl)
def Old(h:Heap)(b S:Nat)(v:V)(ol:List aS):Prop:=(v=.nils∧ol=[])∨(Tb h v S ol∧b≠S∧S<h.next)
theorem Old.recs{h:Heap}{b S:Nat}{v:V}{ol:List aS}(o:Old h b S v ol):Recs sc 3 h v ol:=by
 rcases o with⟨rfl,rfl⟩|⟨t,_⟩
 ·exact Recs.nil
 ·exact t.recs
theorem Old.fr{h h':Heap}{b S:Nat}{v:V}{ol:List aS}(o:Old h b S v ol)(f:Fr [b] h h'):Old h' b S v ol:=by
 rcases o with o|⟨t,ne,lt⟩
 ·exact .inl o
 ·exact .inr ⟨⟨t.1,f.own S _ (by simp;exact fun e=>ne e.symm) t.2⟩,ne,Nat.lt_of_lt_of_le lt f.next⟩
structure Moved(sl ol:List aS)(i:Nat):Prop where
 op:Opn mix sl
 c1:cnS 1 sl=cnS 1 (ol.take i)
 c2:cnS 2 sl=0
 mp:∀k x:Nat,(∃j:Nat,sl[j]? =some (1,k,x))↔∃j:Nat,j<i∧ol[j]? =some (1,k,x)
 kb:∀s∈sl,s.2.1<18446744073709551616∧s.2.2<4611686018427387904
theorem Moved.skip{sl ol:List aS}{i:Nat}{s:aS}(m:Moved sl ol i)(h:ol[i]? =some s)(hs:s.1≠1):Moved sl ol (i+1):=by
 refine{m with c1:=by rw[oW h,if_neg hs];exact m.c1,mp:=fun k x=>(m.mp k x).trans ⟨fun⟨j,a,b⟩=>⟨j,by omega,b⟩,fun⟨j,a,b⟩=>?_⟩};refine⟨j,?_,b⟩;rcases Nat.lt_or_ge j i with q|q
 ·exact q
 ·have:j=i:=by omega
  subst this;rw[h]at b;cases b;exact absurd rfl hs
theorem Moved.put{sl ol:List aS}{i k x a:Nat}(m:Moved sl ol i)(h:ol[i]? =some (1,k,x))(L:Looked mix sl k a false)(hk:k<18446744073709551616)(hx:x<4611686018427387904)(rm:2≤cnS 0 sl):Moved (sl.set a (1,k,x)) ol (i+1):=by
 obtain⟨no,⟨s0,hs0,h0⟩,_⟩:=L.no rfl;have z2:s0.1≠2:=by
  intro e;have:=m.c2;unfold cnS at this;rw[List.countP_eq_zero]at this;exact this s0 (List.mem_of_getElem? hs0) (by simp[e])
 have e1:=gU (c:=1) (x:=((1,k,x):aS)) hs0;have e2:=gU (c:=2) (x:=((1,k,x):aS)) hs0;simp only[if_neg h0,if_neg z2,if_true]at e1 e2;refine⟨m.op.put L x (Ea rm a),?_,?_,fun k' x'=>⟨?_,?_⟩,jS m.kb ⟨hk,hx⟩⟩
 ·rw[oW h,if_pos rfl,←m.c1];omega
 ·have:=m.c2;simp at e2;omega
 ·rintro⟨j,hj⟩;rcases dq _ _ _ _ _ hj with⟨_,e,_⟩|⟨cj,hj⟩
  ·cases e;exact⟨i,by omega,h⟩
  ·obtain⟨j',l',e'⟩:=(m.mp k' x').1 ⟨j,hj⟩;exact⟨j',by omega,e'⟩
 ·rintro⟨j,lj,hj⟩;by_cases c:j=i
  ·subst c;rw[h]at hj;cases hj;exact⟨a,gH _ L.lt⟩
  ·obtain⟨j',hj'⟩:=(m.mp k' x').2 ⟨j,by omega,hj⟩;refine⟨j',?_⟩;rw[List.getElem?_set_ne]
   ·exact hj'
   ·rintro rfl;rw[hs0]at hj';cases hj';exact h0 rfl
theorem yr(n:Nat):bv [V.int .u8 0,V.int .u64 0,V.int .i64 0] n=(List.replicate n ((0,0,0):aS)).flatMap sc:=by
 induction n with
 |zero=>rfl
 |succ n ih=>show[V.int .u8 0,V.int .u64 0,V.int .i64 0]++bv _ n=_;rw[ih,List.replicate_succ];rfl
theorem uL(c n:Nat)(hc:c≠0):cnS c (List.replicate n (0,0,0))=0:=by
 unfold cnS;rw[List.countP_eq_zero];intro s hs;rw[List.eq_of_mem_replicate hs];simp;omega
theorem td{h:Heap}{b S q c:Nat}{ov T0:V}{ol:List aS}(w:WF h)(ob:Own h b [ov,.int .i64 (c:Int),T0])(old:Old h b S ov ol)(o1:ov.one=true)(t1:T0.one=true)(hl:ol.length≤20000)
 (uq:∀i j k v w:Nat,ol[i]? =some (1,k,v)→ol[j]? =some (1,k,w)→i=j) (oc:cnS 1 ol=c) (kb:∀s∈ol,s.2.1<18446744073709551616∧s.2.2<4611686018427387904) (hc:c≤q) (q1:1≤q) (q2:q≤4097):
 ao go 226 [.ptr b 0,.int .i64 (q:Int)] h fun u h'=>u=.tup []∧∃n S' sl,h.next≤S'∧sl.length=n∧8≤n∧n≤20000∧2*q≤n∧Own h' b [.slice S' 0 n n,.int .i64 (c:Int),.int .i64 0]∧Tb h' (.slice S' 0 n n) S' sl∧Moved sl ol ol.length∧Fr [b] h h':=by
 have bl:=ob.lt w;refine ag g226 rfl ?_;simp only[fn226,evs,Nat.reduceAdd];refine aE (fun k env hh=>h=hh∧∃n:Nat,env.get 0=some (.ptr b 0)∧env.get 1=some (.int .i64 (q:Int))∧env.get 4=some (.int .i64 (n:Int))∧8≤n∧n≤16388∧k=2*q-n) (2*q-8) (by omega) ?_ ?_
 ·exact⟨rfl,8,(by simp[T.get_set]),(by simp[T.get_set]),(by simp[T.get_set]),by omega,by omega,rfl⟩
 rintro k env hh ⟨rfl,n,g0,g1,g4,n8,nb,rfl⟩;by_cases hn:(n:Int)<2*(q:Int)
 ·simp(disch:=omega) only[evs,↓reduceIte,Nat.reduceEqDiff,ai,g1,g4,eq_true hn];refine(aj _ _ _).2 ⟨2*q-n*2,by omega,rfl,n*2,(by simp[T.get_set,g0]),(by simp[T.get_set,g1]),(by simp[T.get_set]),by omega,by omega,rfl⟩
  done
 have l0:ab h b 0=some ov:=ob.ld1 0;have ms:=yr n;have mk:qS h [V.int .u8 0,V.int .u64 0,V.int .i64 0] 24 (.int .i64 (n:Int)) (.int .i64 (n:Int))=some (.slice h.next 0 n n,halloc h ((List.replicate n ((0,0,0):aS)).flatMap sc)):=by
  rw[←ms];show(bif Nat.ble n n&&Nat.blt n 9223372036854775808&&Nat.ble (24*n) 281474976710656 then some (V.slice h.next 0 n n,halloc h (bv [V.int .u8 0,V.int .u64 0,V.int .i64 0] n))else none)=_;rw[show Nat.ble n n=true by rw[Nat.ble_eq];omega,show Nat.blt n 9223372036854775808=true by rw[Nat.blt_eq];omega,show Nat.ble (24*n) 281474976710656=true by rw[Nat.ble_eq];omega];rfl
 simp(disch:=omega) only[evs,↓reduceIte,Nat.reduceEqDiff,ai,g0,g1,g4,eq_false hn,l0,mk];have w0:=w.halloc ((List.replicate n ((0,0,0):aS)).flatMap sc);refine ah (c':=[.slice h.next 0 n n,.int .i64 (c:Int),T0]) w0 (ob.halloc w _) rfl rfl rfl ?_;rintro h1 ob1 F1 n1;simp only[evs,↓reduceIte,Nat.reduceEqDiff,g0];refine ah (c':=[.slice h.next 0 n n,.int .i64 (c:Int),.int .i64 0]) F1.wf ob1 rfl rfl rfl ?_;rintro h2 ob2 F2 n2;have bn:h.next≠b:=by omega
 have ot2:Own h2 h.next ((List.replicate n ((0,0,0):aS)).flatMap sc):=F2.own _ _ (by simpa using bn) (F1.own _ _ (by simpa using bn) (Own.new w _));have Fa:Fr [b] h h2:=((Fr.halloc w _).trans (F1.trans F2 w0 (T:=[b]) (fun x hx=>.inl hx) (fun x hx=>.inl hx)) w (fun x hx=>by simp at hx) (fun x hx=>.inl hx));have len:=old.recs.len;simp only[evs,↓reduceIte,len];refine aE (fun k env hh=>∃(i:Nat)(sl:List aS),Fr [b] h hh∧Own hh b [.slice h.next 0 n n,.int .i64 (c:Int),.int .i64 0]∧Tb hh (.slice h.next 0 n n) h.next sl∧sl.length=n∧Moved sl ol i∧env.get 0=some (.ptr b 0)∧env.get 28=some ov∧
  env.get 29=some (.int .i64 (ol.length:Int))∧env.get 30=some (.int .i64 (i:Int))∧i≤ol.length∧k=ol.length-i) ol.length (by omega) ?_ ?_
 ·refine⟨0,List.replicate n (0,0,0),Fa,ob2,⟨.inl (by simp),ot2⟩,by simp,⟨Opn.zero _ _ (by omega),?_,uL 2 n (by omega),fun k x=>⟨?_,?_⟩,?_⟩,(by simp[T.get_set,g0]),(by simp[T.get_set]),(by simp[T.get_set]),(by simp[T.get_set]),by omega,rfl⟩
  ·rw[uL 1 n (by omega)];simp[cnS]
  ·rintro⟨j,hj⟩;have:=List.eq_of_mem_replicate (List.mem_of_getElem? hj);cases this
  ·rintro⟨j,hj,_⟩;omega
  ·intro s hs;rw[List.eq_of_mem_replicate hs];simp
 clear ob1 F1 n1 ob2 F2 n2 ot2 Fa w0 g0 g1 g4 l0 mk ms;rintro k env hh ⟨i,sl,F,oB,tB,sn,mv,g0,g28,g29,g30,hi,rfl⟩;by_cases hlt:(i:Int)<(ol.length:Int)
 ·have wh:=F.wf;obtain⟨b1,p1,⟨s,ky,vl⟩,e1,_,e3,e4⟩:=Recs.ix nD (old.fr F).recs .i64 (i:Int) (by omega) hlt;simp only[Int.toNat_natCast]at e4;have hk:=kb _ (List.mem_of_getElem? e4);simp only[evs,↓reduceIte,Nat.reduceEqDiff,g28,g29,g30,eq_true hlt,e1,e3];refine ah (c':=sc (s,ky,vl)) (wh.halloc _) (Own.new wh _) rfl rfl rfl ?_;rintro h3 o3 F3 n3;have Fx:Fr [] hh h3:=(Fr.halloc wh _).trans F3 wh (fun _ hx=>by simp at hx) (fun x hx=>.inr (by simp at hx;omega));by_cases hs:(s:Int)=1
  ·have hs1:s=1:=by omega
   subst hs1;have q0:ab h3 hh.next 0=some (.int .u8 1):=o3.ld1 0;have q1':ab h3 hh.next 1=some (.int .u64 (ky:Int)):=o3.ld1 1;simp only[evs,↓reduceIte,Nat.reduceEqDiff,q0,q1',g0];refine aa (mQ Fx.wf (Fx.get oB) (tB.fr Fx) mv.op (by omega) hk.1) ?_;rintro _ h4 ⟨at',found,rfl,L,F4⟩;cases found;case true=>
    obtain⟨x,hx⟩:=L.yes rfl;obtain⟨j,lj,hj⟩:=(mv.mp ky x).1 ⟨_,hx⟩;have:=uq _ _ _ _ _ hj e4;omega
   have Fy:=Fx.then F4;have l0:ab h4 b 0=some (.slice h.next 0 n n):=(Fy.get oB).ld1 0;have q3:au h4 hh.next 0 3=some (sc (1,ky,vl)):=by rw[(F4.get o3).ld];rfl
   have ix:=(tB.fr Fy).ix at' L.lt;simp only[evs,↓reduceIte,Nat.reduceEqDiff,eff,g0,l0,q3,ix];refine ah (c':=(sl.set at' (1,ky,vl)).flatMap sc) Fy.wf (tB.fr Fy).2 rfl rfl (kF (1,ky,vl) sl at' L.lt) ?_;rintro h5 o5 F5 n5;have room:2≤cnS 0 sl:=by
    have e:=xi mv.op.st;have:=mv.c2;have a1:=mv.c1;have a2:=oW (c:=1) e4;have a3:=uM 1 (i+1) ol;simp only[if_true]at a2;omega
   simp(disch:=omega) only[evs,↓reduceIte,Nat.reduceEqDiff,Nat.reduceAdd,DF,Nat.reduceSub,ai,g30,l0,q3];refine(aj _ _ _).2 ⟨ol.length-(i+1),by omega,i+1,sl.set at' (1,ky,vl),(F.trans Fy w (fun x hx=>.inl hx) (fun x hx=>by simp at hx)).trans F5 w (fun x hx=>.inl hx) (fun x hx=>.inr (by simp at hx;omega)),F5.own b _ (by simpa using Ne.symm bn) (Fy.get oB),⟨by rw[List.length_set];exact tB.1,o5⟩,by rw[List.length_set];exact sn,
    mv.put e4 L hk.1 hk.2 room,(by simp[T.get_set,g0]),(by simp[T.get_set,g28]),(by simp[T.get_set,g29]),(by simp[T.get_set]),by omega,rfl⟩
   done
  ·have q0:ab h3 hh.next 0=some (.int .u8 (s:Int)):=o3.ld1 0;simp(disch:=omega) only[evs,↓reduceIte,Nat.reduceEqDiff,ai,q0,eq_false hs,g30];refine(aj _ _ _).2 ⟨ol.length-(i+1),by omega,i+1,sl,F.trans Fx w (fun x hx=>.inl hx) (fun x hx=>by simp at hx),Fx.get oB,tB.fr Fx,sn,mv.skip e4 (by simp only[];omega),(by simp[T.get_set,g0]),(by simp[T.get_set,g28]),(by simp[T.get_set,g29]),(by simp[T.get_set]),by omega,rfl⟩
   done
 ·have:i=ol.length:=by omega
  subst this;simp only[evs,↓reduceIte,g29,g30,eq_false hlt];exact⟨n,h.next,sl,Nat.le_refl _,sn,n8,by omega,by omega,oB,tB,mv,F⟩
def jA(m:Nat→Option Nat)(key x:Nat):Nat→Option Nat:=fun k=>if k=key then some x else m k
theorem KmT.put{h h':Heap}{b S key x a t':Nat}{v:V}{sl:List aS}{m:Nat→Option Nat}{c t:Nat}(k:KmT h b S v sl m c t)(L:Looked mix sl key a false)(hk:key<18446744073709551616)(hx:x<4611686018427387904)(fill:4*(c+t+1)≤3*sl.length)
 (ob:Own h' b [v,.int .i64 ((c+1:Nat):Int),.int .i64 (t':Int)]) (o:Own h' S ((sl.set a (1,key,x)).flatMap sc)) (ht:∀s:aS,sl[a]? =some s→t'+(if s.1=2 then 1 else 0)=t):KmT h' b S v (sl.set a (1,key,x)) (jA m key x) (c+1) t':=by
 obtain⟨no,⟨s0,hs0,h0⟩,_⟩:=L.no rfl;have e1:=gU (c:=1) (x:=((1,key,x):aS)) hs0;have e2:=gU (c:=2) (x:=((1,key,x):aS)) hs0;simp only[if_neg h0,if_true]at e1;have ht:=ht s0 hs0;have c1:=k.c1;have c2:=k.c2;have rm:2≤cnS 0 sl:=by have:=k.sum;have:=k.n8;omega
 refine⟨ob,⟨by rw[List.length_set];exact k.tb.1,o⟩,k.op.put L x (Ea rm a),by rw[List.length_set];exact k.n8,by rw[List.length_set];exact k.nb,by omega,?_,fun k' x'=>⟨?_,?_⟩,jS k.kb ⟨hk,hx⟩⟩
 ·simp at e2;split at e2<;>split at ht<;>omega
 ·intro e;unfold jA at e;by_cases ck:k'=key
  ·rw[if_pos ck]at e;cases e;subst ck;exact⟨a,gH _ L.lt⟩
  ·rw[if_neg ck]at e;obtain⟨i,hi⟩:=(k.mp k' x').1 e;refine⟨i,?_⟩;rw[List.getElem?_set_ne]
   ·exact hi
   ·rintro rfl;rw[hs0]at hi;cases hi;exact h0 rfl
 ·rintro⟨i,hi⟩;unfold jA;rcases dq _ _ _ _ _ hi with⟨_,e,_⟩|⟨ci,hj⟩
  ·cases e;rw[if_pos rfl]
  ·by_cases ck:k'=key
   ·subst ck;exact absurd hj (no _ _)
   ·rw[if_neg ck];exact(k.mp k' x').2 ⟨i,hj⟩
theorem wJ{h:Heap}{env:T V}{b S key x:Nat}{v:V}{sl:List aS}{m:Nat→Option Nat}{c t:Nat}{R:V→Heap→Prop}(w:WF h)(k:KmT h b S v sl m c t)(hk:key<18446744073709551616)(hx:x<4611686018427387904)(hm:m key=none)(fill:4*(c+t+1)≤3*sl.length)
 (g0:env.get 0=some (.ptr b 0)) (g1:env.get 1=some (.int .u64 (key:Int))) (g2:env.get 2=some (.int .i64 (x:Int)))
 (K:∀h' sl' t',KmT h' b S v sl' (jA m key x) (c+1) t'→sl'.length=sl.length→t'≤t→Fr [b,S] h h'→R (.int .i64 0) h'):W go CU env h (iT [.t 6] R):=by
 have cb:=k.sum;have nb:=k.nb;have ne:=k.ne;simp only[evs,CU,g0,g1];refine aa (mQ w k.ob k.tb k.op (by omega) hk) ?_;rintro _ h2 ⟨at',found,rfl,L,F⟩;cases found;case true=>
  obtain⟨y,hy⟩:=L.yes rfl;have:=(k.mp key y).2 ⟨_,hy⟩;rw[hm]at this;cases this
 have k2:=k.fr F;have ix:=k2.tb.ix _ L.lt;have l0:ab h2 b 0=some v:=k2.ob.ld1 0;obtain⟨no,⟨s0,hs0,h0⟩,_⟩:=L.no rfl;have l3:ab h2 S (at'*3)=some (.int .u8 (s0.1:Int)):=by
  obtain⟨b1,o1,y,e1,e2,_,e4⟩:=Recs.ix nD k2.tb.recs .i64 (at':Nat) (by omega) (by have:=L.lt;omega);rw[ix]at e1;obtain⟨rfl,rfl⟩:S=b1∧at'*3=o1:=by simpa using e1
  simp only[Int.toNat_natCast]at e4;rw[hs0]at e4;cases e4;exact(e2 0 (by omega)).trans rfl
 by_cases ht:(s0.1:Int)=2
 ·have t1:1≤t:=by
   rw[←k.c2];have:0<cnS 2 sl:=by
    unfold cnS;rw[List.countP_pos_iff];exact⟨s0,List.mem_of_getElem? hs0,by simp;omega⟩
   exact this
  have l2:ab h2 b 2=some (.int .i64 (t:Int)):=k2.ob.ld1 2;simp(disch:=omega) only[evs,↓reduceIte,Nat.reduceEqDiff,ai,l0,ix,l3,eq_true ht,g0,l2];refine ah (c':=[v,.int .i64 (c:Int),.int .i64 ((t:Int)-1)]) F.wf k2.ob rfl rfl rfl ?_;rintro h3 o3 F3 n3;have tb3:Tb h3 v S sl:=⟨k2.tb.1,F3.own S _ (by simpa using Ne.symm ne) k2.tb.2⟩;have l0':ab h3 b 0=some v:=o3.ld1 0;have ix':=tb3.ix _ L.lt;simp only[evs,↓reduceIte,Nat.reduceEqDiff,g0,g1,g2,l0',ix'];refine ah (c':=(sl.set at' (1,key,x)).flatMap sc) F3.wf tb3.2 rfl rfl (kF (1,key,x) sl at' L.lt) ?_;rintro h4 o4 F4 n4;have ob4:=F4.own b _ (by simpa using ne) o3;have l1:ab h4 b 1=some (.int .i64 (c:Int)):=ob4.ld1 1;simp(disch:=omega) only[evs,↓reduceIte,Nat.reduceEqDiff,ai,g0,l1];refine ah (c':=[v,.int .i64 ((c:Int)+1),.int .i64 ((t:Int)-1)]) F4.wf ob4 rfl rfl rfl ?_;rintro h5 o5 F5 n5;simp only[evs,↓reduceIte];refine K h5 (sl.set at' (1,key,x)) (t-1) (k.put L hk hx fill ?_ (F5.own S _ (by simpa using Ne.symm ne) o4) ?_) (List.length_set ..) (by omega) ?_
  ·rw[show((t-1:Nat):Int)=(t:Int)-1 by omega];exact o5
  ·intro s hs;rw[hs0]at hs;cases hs;rw[if_pos (by omega)];omega
  ·have A:Fr [b,S] h2 h4:=F3.trans F4 F.wf (fun x hx=>.inl (by simp at hx;simp[hx])) (fun x hx=>.inl (by simp at hx;simp[hx]));have B:Fr [b,S] h2 h5:=A.trans F5 F.wf (fun x hx=>.inl hx) (fun x hx=>.inl (by simp at hx;simp[hx]));exact F.trans B w (fun x hx=>by simp at hx) (fun x hx=>.inl hx)
 ·simp only[evs,↓reduceIte,Nat.reduceEqDiff,l0,ix,l3,eq_false ht,g0,g1,g2];refine ah (c':=(sl.set at' (1,key,x)).flatMap sc) F.wf k2.tb.2 rfl rfl (kF (1,key,x) sl at' L.lt) ?_;rintro h4 o4 F4 n4;have ob4:=F4.own b _ (by simpa using ne) k2.ob;have l1:ab h4 b 1=some (.int .i64 (c:Int)):=ob4.ld1 1;simp(disch:=omega) only[evs,↓reduceIte,Nat.reduceEqDiff,ai,g0,l1];refine ah (c':=[v,.int .i64 ((c:Int)+1),.int .i64 (t:Int)]) F4.wf ob4 rfl rfl rfl ?_;rintro h5 o5 F5 n5;simp only[evs,↓reduceIte];refine K h5 (sl.set at' (1,key,x)) t (k.put L hk hx fill o5 (F5.own S _ (by simpa using Ne.symm ne) o4) ?_) (List.length_set ..) (by omega) ?_
  ·intro s hs;rw[hs0]at hs;cases hs;rw[if_neg (by omega)];omega
  ·have B:Fr [b,S] h2 h5:=F4.trans F5 F.wf (fun x hx=>.inl (by simp at hx;simp[hx])) (fun x hx=>.inl (by simp at hx;simp[hx]));exact F.trans B w (fun x hx=>by simp at hx) (fun x hx=>.inl hx)
theorem Moved.kmt{h':Heap}{b S' n:Nat}{sl ol:List aS}{m:Nat→Option Nat}{c:Nat}(M:Moved sl ol ol.length)(sn:sl.length=n)(n8:8≤n)(nb:n≤20000)(ob:Own h' b [.slice S' 0 n n,.int .i64 (c:Int),.int .i64 0])(tb:Tb h' (.slice S' 0 n n) S' sl)
 (oc:cnS 1 ol=c) (mp:∀k x:Nat,m k=some x↔∃i:Nat,ol[i]? =some (1,k,x)):KmT h' b S' (.slice S' 0 n n) sl m c 0:=by
 refine⟨ob,tb,M.op,by omega,by omega,by rw[M.c1,List.take_length];exact oc,M.c2,fun k x=>(mp k x).trans ⟨fun⟨i,hi⟩=>(M.mp k x).2 ⟨i,(List.getElem?_eq_some_iff.1 hi).1,hi⟩,fun q=>?_⟩,M.kb⟩;obtain⟨j,_,hj⟩:=(M.mp k x).1 q;exact⟨j,hj⟩
theorem wK{h:Heap}{env:T V}{b S key x:Nat}{m:Nat→Option Nat}{c:Nat}{R:V→Heap→Prop}(w:WF h)(k:Km h b S m c)(hc:c<4096)(hk:key<18446744073709551616)(hx:x<4611686018427387904)(hm:m key=none)
 (g0:env.get 0=some (.ptr b 0)) (g1:env.get 1=some (.int .u64 (key:Int))) (g2:env.get 2=some (.int .i64 (x:Int)))
 (K:∀h' S',(S'=S∨h.next≤S')→Km h' b S' (jA m key x) (c+1)→Fr [b,S] h h'→R (.int .i64 0) h'):W go Au env h (iT [.t 6] R):=by
 have fin:∀{h2:Heap}{env2:T V}{S':Nat}{v:V}{sl:List aS}{t:Nat},Fr [b] h h2→h.next≤S'→KmT h2 b S' v sl m c t→4*(c+t+1)≤3*sl.length→env2.get 0=some (.ptr b 0)→env2.get 1=some (.int .u64 (key:Int))→env2.get 2=some (.int .i64 (x:Int))→W go CU env2 h2 (iT [.t 6] R):=by
  intro h2 env2 S' v sl t F hS k2 fill a0 a1 a2;refine wJ F.wf k2 hk hx hm fill a0 a1 a2 fun h' sl' t' k' e1 e2 F'=>K h' S' (.inr hS) (.inr ⟨v,sl',t',k',by omega⟩) ?_;exact F.trans F' w (fun x hx=>.inl (by simp at hx;simp[hx])) (fun x hx=>by
   simp at hx;rcases hx with rfl|rfl
   ·exact .inl (by simp)
   ·exact .inr hS)
 rcases k with⟨o,rfl,h1⟩|⟨v,sl,t,k,_⟩
 ·have l0:ab h b 0=some .nils:=o.ld1 0;have l1:ab h b 1=some (.int .i64 0):=o.ld1 1;have l2:ab h b 2=some (.int .i64 0):=o.ld1 2;simp(disch:=omega) only[evs,↓reduceIte,Nat.reduceEqDiff,Nat.reduceAdd,DF,eff,Nat.reduceSub,ai,Au,g0,l0,l1,l2,show¬(0:Int)=4096 by omega];refine aa (td (S:=b) (q:=1) (c:=0) (ol:=[]) w o (.inl ⟨rfl,rfl⟩) rfl rfl (by simp) (by simp) rfl (by simp) (by omega) (by omega) (by omega)) ?_;rintro _ h2 ⟨rfl,n,S',sl,hS,sn,n8,nb,q2,ob,tb,M,F⟩;simp only[evs];exact fin F hS (M.kmt sn n8 nb ob tb rfl (fun k x=>by rw[h1];simp)) (by omega) (by simp[T.get_set,g0]) (by simp[T.get_set,g1]) (by simp[T.get_set,g2])
 ·have cb:=k.sum;have nb:=k.nb;have l0:ab h b 0=some v:=k.ob.ld1 0;have l1:ab h b 1=some (.int .i64 (c:Int)):=k.ob.ld1 1;have l2:ab h b 2=some (.int .i64 (t:Int)):=k.ob.ld1 2;have len:=k.tb.recs.len;have c0:¬(c:Int)=4096:=by omega
  by_cases hf:3*(sl.length:Int)<4*((c:Int)+(t:Int)+1)
  ·simp(disch:=omega) only[evs,↓reduceIte,Nat.reduceEqDiff,Nat.reduceAdd,DF,eff,Nat.reduceSub,ai,Au,g0,l0,l1,l2,len,c0,eq_true hf];have o1:v.one=true:=by rcases k.tb.1 with rfl|rfl<;>rfl
   refine aa (td (S:=S) (q:=c+1) w k.ob (.inr ⟨k.tb,k.ne,k.tb.2.lt w⟩) o1 rfl nb k.op.uniq k.c1 k.kb (by omega) (by omega) (by omega)) ?_;rintro _ h2 ⟨rfl,n,S',sl',hS,sn,n8,nb',q2,ob,tb,M,F⟩;simp only[evs];exact fin F hS (M.kmt sn n8 nb' ob tb k.c1 k.mp) (by omega) (by simp[T.get_set,g0]) (by simp[T.get_set,g1]) (by simp[T.get_set,g2])
  ·simp(disch:=omega) only[evs,↓reduceIte,Nat.reduceEqDiff,Nat.reduceAdd,DF,eff,Nat.reduceSub,ai,Au,g0,l0,l1,l2,len,c0,eq_false hf];refine wJ w k hk hx hm (by omega) ?_ ?_ ?_ fun h' sl' t' k' e1 e2 F'=>K h' S (.inl rfl) (.inr ⟨v,sl',t',k',by omega⟩) F'
   ·simp[T.get_set,g0]
   ·simp[T.get_set,g1]
   ·simp[T.get_set,g2]
theorem De{h:Heap}{b S key x:Nat}{m:Nat→Option Nat}{c:Nat}(w:WF h)(k:Km h b S m c)(hc:c<4096∨(m key).isSome=true)(k0:0<key)(hk:key<18446744073709551616)(hx:x<4611686018427387904):
 ao go 168 [.ptr b 0,.int .u64 (key:Int),.int .i64 (x:Int)] h fun u h'=>u=.int .i64 0∧∃S',(S'=S∨h.next≤S')∧Km h' b S' (jA m key x) (if(m key).isSome=true then c else c+1)∧Fr [b,S] h h':=by
 have kz:¬(key:Int)=0:=by omega
 have k00:=k;refine ag g168x rfl ?_;rcases k with⟨o,rfl,h1⟩|⟨v,sl,t,k,fill⟩
 ·have l0:ab h b 0=some .nils:=o.ld1 0;simp only[evs,↓reduceIte,Nat.reduceEqDiff,Nat.reduceAdd,fn168x,kz,l0,show¬(0:Int)<0 by omega];refine wK w k00 (by omega) hk hx (h1 key) ?_ ?_ ?_ fun h' S' a b c=>?_
  ·simp[T.get_set]
  ·simp[T.get_set]
  ·simp[T.get_set]
  ·rw[h1];exact⟨rfl,S',a,b,c⟩
 ·have l0:ab h b 0=some v:=k.ob.ld1 0;have len:=k.tb.recs.len;have n8:=k.n8;have nb:=k.nb;simp only[evs,↓reduceIte,Nat.reduceEqDiff,Nat.reduceAdd,fn168x,kz,l0,len,eq_true (show(0:Int)<(sl.length:Int) by omega)];refine aa (mQ w k.ob k.tb k.op (by omega) hk) ?_;rintro _ h2 ⟨at',found,rfl,L,F⟩;cases found
  ·have hm:m key=none:=by
    cases e:m key with
    |none=>rfl
    |some y=>obtain⟨i,hi⟩:=(k.mp key y).1 e;exact absurd hi ((L.no rfl).1 i y)
   rw[hm]at hc⊢;simp only[evs,↓reduceIte];refine wK F.wf (k00.fr F) (by simpa using hc) hk hx hm ?_ ?_ ?_ fun h' S' a b' c'=>⟨rfl,S',a.imp id (fun q=>Nat.le_trans F.next q),by simpa using b',F.trans c' w (fun x hx=>by simp at hx) (fun x hx=>.inl hx)⟩
   ·simp[T.get_set]
   ·simp[T.get_set]
   ·simp[T.get_set]
  ·obtain⟨y,hy⟩:=L.yes rfl;have hm:=(k.mp key y).2 ⟨_,hy⟩;have k2:=k.fr F;have ix:=k2.tb.ix _ L.lt;have ne:=k2.ne;have l0':ab h2 b 0=some v:=k2.ob.ld1 0;rw[hm];simp only[evs,↓reduceIte,Nat.reduceEqDiff,l0',ix];refine ah (c':=(sl.set at' (1,key,x)).flatMap sc) F.wf k2.tb.2 rfl rfl (qA key y x sl at' hy) ?_;rintro h3 o3 F3 n3;simp only[evs,↓reduceIte];have e1:=gU (c:=1) (x:=((1,key,x):aS)) hy;have e2:=gU (c:=2) (x:=((1,key,x):aS)) hy;simp at e1 e2;refine⟨S,.inl rfl,.inr ⟨v,sl.set at' (1,key,x),t,⟨F3.own b _ (by simpa using ne) k2.ob,⟨by rw[List.length_set];exact k.tb.1,o3⟩,k.op.change hy x,by rw[List.length_set];exact n8,by rw[List.length_set];exact nb,by have:=k.c1;first|omega|(simp;omega),by have:=k.c2;omega,?_,jS k.kb ⟨hk,hx⟩⟩,by rw[List.length_set];first|exact fill|simpa using fill⟩,?_⟩
   ·intro k' x';unfold jA;constructor
    ·intro e;by_cases ck:k'=key
     ·rw[if_pos ck]at e;cases e;subst ck;exact⟨at',gH _ L.lt⟩
     ·rw[if_neg ck]at e;obtain⟨i,hi⟩:=(k.mp k' x').1 e;refine⟨i,?_⟩;rw[List.getElem?_set_ne]
      ·exact hi
      ·rintro rfl;rw[hy]at hi;cases hi;exact ck rfl
    ·rintro⟨i,hi⟩;rcases dq _ _ _ _ _ hi with⟨_,e,_⟩|⟨ci,hj⟩
     ·cases e;rw[if_pos rfl]
     ·have ck:k'≠key:=by rintro rfl;exact ci (k.op.uniq _ _ _ _ _ hj hy)
      rw[if_neg ck];exact(k.mp k' x').2 ⟨i,hj⟩
   ·exact F.trans F3 w (fun x hx=>by simp at hx) (fun x hx=>.inl (by simp at hx;simp[hx]))
set_option maxRecDepth 4000
def TbC(e:Nat)(h:Heap)(v:V)(B:Nat)(C:List V)(N:Nat):Prop:=C.length=N*e∧((v=.nils∧N=0)∨(v=.slice B 0 N N∧Own h B C))
def Dst(e:Nat)(h:Heap)(B:Nat)(C:List V)(u:V)(o n:Nat):Prop:=o+n*e≤C.length∧((n=0∧(u=.nils∨∃b o c,u=.slice b o 0 c))∨∃cap,u=.slice B o n cap∧Own h B C)
variable {e : Nat} {h : Heap} {v u su : V} {B N : Nat} {C vs : List V}
theorem TbC.sl(a:TbC e h v B C N):Sl h e v N C:=by
 obtain⟨hl,⟨rfl,rfl⟩|⟨rfl,o⟩⟩:=a
 ·exact⟨hl,rfl⟩
 ·exact Sl.lit o hl
theorem TbC.one(a:TbC e h v B C N):v.one=true:=a.sl.one
theorem TbC.len(a:TbC e h v B C N):aP .lenS [v]=some (.int .i64 N):=a.sl.len
theorem TbC.fr{S:List Nat}{h':Heap}(a:TbC e h v B C N)(f:Fr S h h')(hB:B∉S):TbC e h' v B C N:=by
 obtain⟨hl,⟨rfl,rfl⟩|⟨rfl,o⟩⟩:=a
 ·exact⟨hl,.inl ⟨rfl,rfl⟩⟩
 ·exact⟨hl,.inr ⟨rfl,f.own _ _ hB o⟩⟩
theorem Sl.ones{h:Heap}{e:Nat}{v:V}{n:Nat}{cs:List V}(a:Sl h e v n cs)(b:Sl h e v n vs):cs=vs:=by
 have:=a.srcCells.symm.trans b.srcCells;exact Option.some.inj this
theorem TbC.part(a:TbC e h v B C N)(lo hi:Bool)(bs:List V)(l r:Nat)(hr:r≤N)(hl:l≤r)
 (hb:aU N N lo hi false bs=some (l,r,none)) (he:0<e):
 ∃v',aP (.sl none e lo hi false) (v::bs)=some v'∧Sl h e v' (r-l) ((C.drop (l*e)).take ((r-l) *e))∧Dst e h B C v' (l*e) (r-l):=by
 have hm:l*e+(r-l) *e≤C.length:=by
  rw[a.1,←Nat.add_mul];exact Nat.mul_le_mul_right _ (by omega)
 obtain⟨hlen,⟨rfl,rfl⟩|⟨rfl,o⟩⟩:=a
 ·have h0:l=0:=by omega
  have h1:r=0:=by omega
  subst h0 h1;refine⟨.nils,by simp only[aP,dV,hb,Option.map_some],⟨by simp,rfl⟩,⟨hm,.inl ⟨by omega,.inl rfl⟩⟩⟩
 ·refine⟨.slice B (bif Nat.beq N l then 0 else 0+l*e) (r-l) (N-l),by simp only[aP,dV,hb,Option.map_some,Option.getD_none],⟨by simp;omega,rfl,by omega,C,o,?_⟩,hm,?_⟩
  ·by_cases c:N=l
   ·have h0:r-l=0:=by omega
    rw[gW c,h0];simp
   ·rw[ew c];simp only[cond_false,Nat.zero_add];exact⟨hm,trivial⟩
  ·by_cases c:N=l
   ·have h0:r-l=0:=by omega
    rw[gW c,h0];exact .inl ⟨rfl,.inr ⟨_,_,_,rfl⟩⟩
   ·rw[ew c];simp only[cond_false,Nat.zero_add];exact .inr ⟨_,rfl,o⟩
theorem TbC.from(a:TbC e h v B C N)(he:0<e)(k:IntKind)(i:Int)(l:Nat)(hi:i=l)(hl:l≤N):
 ∃v',aP (.sl none e true false false) [v,.int k i]=some v'∧Sl h e v' (N-l) ((C.drop (l*e)).take ((N-l) *e))∧Dst e h B C v' (l*e) (N-l):=by
 subst hi;exact a.part true false [.int k l] l N (Nat.le_refl _) hl (by simp only[aU,bW k l N (by omega) (by omega),Option.map_some,Int.toNat_natCast]) he
theorem TbC.upto(a:TbC e h v B C N)(he:0<e)(k:IntKind)(i:Int)(r:Nat)(hi:i=r)(hr:r≤N):
 ∃v',aP (.sl none e false true false) [v,.int k i]=some v'∧Sl h e v' r (C.take (r*e)):=by
 subst hi;obtain⟨v',a1,a2,_⟩:=a.part false true [.int k r] 0 r hr (Nat.zero_le _) (by simp only[aU,bW k r N (by omega) (by omega),Option.map_some,Int.toNat_natCast]) he;exact⟨v',a1,by simpa using a2⟩
theorem TbC.range(a:TbC e h v B C N)(he:0<e)(k k':IntKind)(i j:Int)(l r:Nat)(hi:i=l)(hj:j=r)(hr:r≤N)(hl:l≤r):
 ∃v',aP (.sl none e true true false) [v,.int k i,.int k' j]=some v'∧Sl h e v' (r-l) ((C.drop (l*e)).take ((r-l) *e))∧Dst e h B C v' (l*e) (r-l):=by
 subst hi hj;exact a.part true true [.int k l,.int k' r] l r hr hl (by
  simp only[aU,bW k' r N (by omega) (by omega),Option.bind_some,Int.toNat_natCast,bW k l r (by omega) (by omega),Option.map_some]) he
theorem gR{o n m:Nat}{K:V→Heap→Prop}(he:0<e)(w:WF h)(d:Dst e h B C u o n)(s:Sl h e su m vs)(h1:aq vs=true)(hm:m≤n)
 (t:TbC e h v B C N)
 (k:∀h1,TbC e h1 v B (C.take o++vs++C.drop (o+m*e)) N→Fr [B] h h1→h1.next=h.next→K (.int .i64 (m:Int)) h1):OQ (qU h e u su) K:=by
 have hl:=s.1;have hd:gQ u=some n:=by
  rcases d.2 with⟨rfl,rfl|⟨_,_,_,rfl⟩⟩|⟨_,rfl,_⟩<;>rfl
 have ht:(C.take o++vs++C.drop (o+m*e)).length=N*e:=by
  have:=d.1;have:=Nat.mul_le_mul_right e hm;rw[←t.1];simp;omega
 unfold qU OQ;simp only[hd,s.srcLen,Nat.min_def];rw[if_pos hm];by_cases c:m=0
 ·subst c;have:vs=[]:=List.length_eq_zero_iff.1 (by omega);subst this;refine⟨_,_,rfl,k h ?_ (Fr.refl w) rfl⟩;simpa using t
 ·rw[ew c];rcases d.2 with⟨h0,_⟩|⟨cap,rfl,ow⟩
  ·omega
  ·obtain⟨_,⟨rfl,rfl⟩|⟨rfl,_⟩⟩:=t
   ·exfalso;have:=d.1;have:C.length=0:=by omega
    have:n*e=0:=by omega
    rcases Nat.mul_eq_zero.1 this with z|z<;>omega
   ·obtain⟨h',e1,o1,f1,n1⟩:=lI w ow h1 (cW C o vs (by have:=d.1;have:=Nat.mul_le_mul_right e hm;omega));refine⟨_,h',?_,k h' ⟨ht,.inr ⟨rfl,?_⟩⟩ f1 n1⟩
    ·simp only[cond_false,s.srcCells,e1,Option.map_some]
    ·rw[hl]at o1;exact o1
theorem eM(z:List V)(n:Nat):(bv z n).length=n*z.length:=by
 induction n with
 |zero=>simp[fb]
 |succ n ih=>rw[d8,List.length_append,ih];rw[Nat.succ_mul];omega
theorem aL(a b:List V):aq (a++b)=(aq a&&aq b):=by
 induction a with
 |nil=>simp[aq]
 |cons x l ih=>rw[List.cons_append,aD,aD,ih,Bool.and_assoc]
theorem ef{a:List V}(n:Nat)(x:aq a=true):aq (a.take n)=true:=by
 rw[←List.take_append_drop n a,aL]at x;exact(Bool.and_eq_true _ _▸x).1
theorem dM{a:List V}(n:Nat)(x:aq a=true):aq (a.drop n)=true:=by
 rw[←List.take_append_drop n a,aL]at x;exact(Bool.and_eq_true _ _▸x).2
theorem vD{z:List V}(n:Nat)(x:aq z=true):aq (bv z n)=true:=by
 induction n with
 |zero=>rfl
 |succ n ih=>rw[d8,aL,x,ih];rfl
theorem Bv{o n:Nat}{z:List V}{K:V→Heap→Prop}(w:WF h)(d:Dst e h B C u o n)(hz:z.length=e)(h1:aq z=true)(t:TbC e h v B C N)
 (k:∀h1,TbC e h1 v B (C.take o++bv z n++C.drop (o+n*e)) N→Fr [B] h h1→h1.next=h.next→K (.tup []) h1):OQ (wq h z u) K:=by
 have ht:(C.take o++bv z n++C.drop (o+n*e)).length=N*e:=by
  have:=d.1;rw[←t.1];simp[eM,hz];omega
 unfold wq OQ;rcases d.2 with⟨rfl,q⟩|⟨cap,rfl,ow⟩
 ·have:K (.tup []) h:=k h (by simpa[fb]using t) (Fr.refl w) rfl;rcases q with rfl|⟨_,_,_,rfl⟩
  ·exact⟨_,_,rfl,this⟩
  ·exact⟨_,_,rfl,this⟩
 ·by_cases c:n=0
  ·subst c;exact⟨_,_,rfl,k h (by simpa[fb]using t) (Fr.refl w) rfl⟩
  ·obtain⟨h',e1,o1,f1,n1⟩:=lI w ow (vD n h1) (cW C o (bv z n) (by rw[eM,hz];exact d.1));refine⟨_,h',?_,k h' ⟨ht,?_⟩ f1 n1⟩
   ·simp only[ew c,cond_false,e1,Option.map_some]
   ·obtain⟨hl,⟨rfl,rfl⟩|⟨rfl,_⟩⟩:=t
    ·exact .inl ⟨rfl,rfl⟩
    ·rw[eM,hz]at o1;exact .inr ⟨rfl,o1⟩
abbrev Z4:List V:=[.int .u64 0,.int .u8 0,.str [],.nils]
def NoI(l:List V):Prop:=∀x∈l,∀n:Int,x≠.int .i64 n
theorem NoI.sub{a b:List V}(h:NoI b)(s:∀x∈a,x∈b):NoI a:=fun x m=>h x (s x m)
theorem NoI.app{a b:List V}(h:NoI a)(g:NoI b):NoI (a++b):=fun x m=>(List.mem_append.1 m).elim (h x) (g x)
structure GpT(h:Heap)(b B:Nat)(v:V)(c1 G c2:List V)(a g m:Nat):Prop where
 ob:Own h b [v,.int .i64 (a:Int),.int .i64 (g:Int)]
 tb:TbC 4 h v B (c1++G++c2) (a+g+m)
 l1:c1.length=a*4
 lg:G.length=g*4
 l2:c2.length=m*4
 o1:aq c1=true
 o2:aq c2=true
 ne:B≠b
 nb:a+g+m≤8208
 am:a+m≤4096
 n6:NoI (c1++G++c2)
def Gp(h:Heap)(b B:Nat)(n:Nat)(l:List V):Prop:=∃v c1 G c2 a g m,GpT h b B v c1 G c2 a g m∧l=c1++c2∧n=a+m
variable {h : Heap} {b B : Nat} {v : V} {c1 G c2 : List V} {a g m : Nat}
theorem GpT.fr{h':Heap}(k:GpT h b B v c1 G c2 a g m){S:List Nat}(f:Fr S h h')(hb:b∉S)(hB:B∉S):GpT h' b B v c1 G c2 a g m:=
 ⟨f.own _ _ hb k.ob,k.tb.fr f hB,k.l1,k.lg,k.l2,k.o1,k.o2,k.ne,k.nb,k.am,k.n6⟩
theorem Gp.fr{h':Heap}{n:Nat}{l:List V}(k:Gp h b B n l){S:List Nat}(f:Fr S h h')(hb:b∉S)(hB:B∉S):Gp h' b B n l:=by
 obtain⟨v,c1,G,c2,a,g,m,k,e⟩:=k;exact⟨v,c1,G,c2,a,g,m,k.fr f hb hB,e⟩
theorem Gp.len{n:Nat}{l:List V}(k:Gp h b B n l):l.length=n*4∧n≤4096∧aq l=true:=by
 obtain⟨v,c1,G,c2,a,g,m,k,rfl,rfl⟩:=k;have:=k.l1;have:=k.l2;have:=k.am;exact⟨by simp;omega,by omega,by rw[aL,k.o1,k.o2];rfl⟩
theorem dt(k:GpT h b B v c1 G c2 a g m):ao go 52 [.ptr b 0] h fun u h'=>u=.int .i64 ((a+m:Nat):Int)∧h=h':=by
 have l0:=k.ob.ld1 0;have l2:=k.ob.ld1 2;have nb:=k.nb;simp only[bD,bY]at l0 l2;refine ag g52 rfl ?_;simp(disch:=omega) only[fn52,evs,↓reduceIte,Nat.reduceEqDiff,Nat.reduceAdd,DF,eff,Nat.reduceSub,ai,l0,l2,k.tb.len];congr 1;omega
def vU(n:Nat)(at' k:Int):Int:=if at'<0∨k<0∨(n:Int)<at'∨(n:Int)-at'<k then 4 else 0
theorem jh(k:GpT h b B v c1 G c2 a g m)(i n:Int):ao go 137 [.ptr b 0,.int .i64 i,.int .i64 n] h fun u h'=>u=.int .i64 (vU (a+m) i n)∧h=h':=by
 unfold vU;by_cases x1:i<0
 ·refine ag g137 rfl ?_;simp only[fn137,evs,↓reduceIte,Nat.reduceEqDiff,Nat.reduceAdd,x1];simp
 by_cases x2:n<0
 ·refine ag g137 rfl ?_;simp only[fn137,evs,↓reduceIte,Nat.reduceEqDiff,Nat.reduceAdd,x1,x2];simp
 have am:=k.am;by_cases x3:((a+m:Nat):Int)<i
 ·refine ag g137 rfl ?_;simp only[fn137,evs,↓reduceIte,Nat.reduceEqDiff,Nat.reduceAdd,x1,x2];refine aa (dt k) ?_;rintro _ _ ⟨rfl,rfl⟩;simp only[evs,↓reduceIte,x3];simp
 by_cases x4:((a+m:Nat):Int)-i<n
 ·refine ag g137 rfl ?_;simp only[fn137,evs,↓reduceIte,Nat.reduceEqDiff,Nat.reduceAdd,x1,x2];refine aa (dt k) ?_;rintro _ _ ⟨rfl,rfl⟩;simp only[evs,↓reduceIte,Nat.reduceEqDiff,x3];refine aa (dt k) ?_;rintro _ _ ⟨rfl,rfl⟩;simp(disch:=omega) only[evs,↓reduceIte,Nat.reduceEqDiff,ai,x4];simp
 ·refine ag g137 rfl ?_;simp only[fn137,evs,↓reduceIte,Nat.reduceEqDiff,Nat.reduceAdd,x1,x2];refine aa (dt k) ?_;rintro _ _ ⟨rfl,rfl⟩;simp only[evs,↓reduceIte,Nat.reduceEqDiff,x3];refine aa (dt k) ?_;rintro _ _ ⟨rfl,rfl⟩;simp(disch:=omega) only[evs,↓reduceIte,Nat.reduceEqDiff,ai,x4];simp
theorem Az(k:GpT h b B v c1 G c2 a g m)(i:Nat)(hi:i≤4096):ao go 138 [.ptr b 0,.int .i64 (i:Int)] h fun u h'=>u=.int .i64 ((if a≤i then i+g else i:Nat):Int)∧h=h':=by
 have l1:=k.ob.ld1 1;have l2:=k.ob.ld1 2;have nb:=k.nb;simp only[bD,bY]at l1 l2;by_cases c:a≤i
 ·refine ag g138 rfl ?_;simp(disch:=omega) only[fn138,evs,↓reduceIte,Nat.reduceEqDiff,Nat.reduceAdd,ai,l1,l2,show(a:Int)≤(i:Int) by omega];rw[if_pos c];simp
 ·refine ag g138 rfl ?_;simp only[fn138,evs,↓reduceIte,Nat.reduceEqDiff,Nat.reduceAdd,l1,show¬(a:Int)≤(i:Int) by omega];rw[if_neg c]
theorem Dm{n i:Nat}(h:i<n):vU n i 1=0:=by unfold vU;rw[if_neg];omega
theorem EN{α:Type}(c1 G c2:List α)(a g i k:Nat)(l1:c1.length=a*k)(lg:G.length=g*k):
 ((c1++G++c2).drop ((if a≤i then i+g else i) *k)).take k=((c1++c2).drop (i*k)).take k:=by
 by_cases c:a≤i
 ·rw[if_pos c];obtain⟨j,rfl⟩:∃j,i=a+j:=⟨i-a,by omega⟩;have e1:(a+j+g) *k=(c1++G).length+j*k:=by rw[List.length_append,l1,lg,Nat.add_mul,Nat.add_mul];omega
  have e2:(a+j) *k=c1.length+j*k:=by rw[l1,Nat.add_mul]
  rw[e1,e2,List.drop_length_add_append,List.drop_length_add_append]
 ·rw[if_neg c];have e:i*k+k≤c1.length:=by rw[l1,←Nat.succ_mul];exact Nat.mul_le_mul_right _ (by omega)
  rw[List.append_assoc,List.drop_append_of_le_length (by omega),List.take_append_of_le_length (by simp;omega),List.drop_append_of_le_length (by omega),List.take_append_of_le_length (by simp;omega)]
theorem GpT.at'(k:GpT h b B v c1 G c2 a g m){i:Nat}(hi:i<a+m):
 aP (.ixs 4) [v,.int .i64 ((if a≤i then i+g else i:Nat):Int)]=some (.ptr B ((if a≤i then i+g else i) *4))∧au h B ((if a≤i then i+g else i) *4) 4=some (((c1++c2).drop (i*4)).take 4):=by
 have hp:(if a≤i then i+g else i)<a+g+m:=by split<;>omega
 obtain⟨hl,⟨rfl,z⟩|⟨rfl,o⟩⟩:=k.tb
 ·omega
 ·refine⟨?_,?_⟩
  ·rw[iS _ _ _ _ _ _ _ (by omega) (by omega)];simp
  ·rw[o.ld,bq,bC,EN c1 G c2 a g i 4 k.l1 k.lg];simp only[List.length_drop,hl];omega
theorem Hj{l:List V}{n i:Nat}(hl:l.length=n*4)(hi:i<n)(ho:aq l=true):∃x y z u,(l.drop (i*4)).take 4=[x,y,z,u]∧aq [x,y,z,u]=true:=by
 have e:((l.drop (i*4)).take 4).length=4:=by simp;omega
 have ho':=ef 4 (dM (i*4) ho);match q:(l.drop (i*4)).take 4,e with
 |[x,y,z,u],_=>exact⟨x,y,z,u,rfl,by rw[q]at ho';exact ho'⟩
theorem GpT.tot(k:GpT h b B v c1 G c2 a g m):(c1++c2).length=(a+m) *4∧aq (c1++c2)=true:=by
 have:=k.l1;have:=k.l2;exact⟨by simp;omega,by rw[aL,k.o1,k.o2];rfl⟩
theorem Fs(w:WF h)(k:GpT h b B v c1 G c2 a g m){i:Nat}(hi:i<a+m):ao go 70 [.ptr b 0,.int .i64 (i:Int)] h fun u h'=>Fr [] h h'∧u=.tup [.agg (((c1++c2).drop (i*4)).take 4),.int .i64 0]:=by
 have am:=k.am;obtain⟨x,y,z,u,ec,eo⟩:=Hj k.tot.1 hi k.tot.2;obtain⟨h1,e_h1⟩:∃h1,h1=halloc h [.int .u64 0,.int .u8 0,.str [],.nils]:=⟨_,rfl⟩;have F_h1:Fr [] h h1:=e_h1▸Fr.halloc w _;have o_h1:Own h1 h.next [.int .u64 0,.int .u8 0,.str [],.nils]:=e_h1▸Own.new w _;have k1:=k.fr F_h1 (by simp) (by simp);refine ag g70 rfl ?_;simp only[fn70,evs,↓reduceIte,Nat.reduceEqDiff,Nat.reduceAdd,←e_h1];refine aa (jh k1 i 1) ?_;rintro _ _ ⟨rfl,rfl⟩;simp only[evs,↓reduceIte,Nat.reduceEqDiff,eff,Dm hi];have l0:=k1.ob.ld1 0;simp only[bD]at l0;have nh:h.next≠b:=by have:=k.ob.lt w;omega
 simp only[evs,↓reduceIte,Nat.reduceEqDiff,eff,l0];refine aa (Az k1 i (by omega)) ?_;rintro _ _ ⟨rfl,rfl⟩;have⟨a1,a2⟩:=k1.at' hi;rw[ec]at a2;simp only[evs,↓reduceIte,Nat.reduceEqDiff,eff,a1,a2];refine ah F_h1.wf o_h1 rfl eo rfl ?_;rintro h2 o2 F2 n2;have l0':ab h2 b 0=some v:=(F2.own b _ (by simp;omega) k1.ob).ld1 0;have a2':au h2 B ((if a≤i then i+g else i) *4) 4=some [x,y,z,u]:=by
  obtain⟨hl,⟨rfl,z⟩|⟨rfl,o⟩⟩:=k1.tb
  ·omega
  ·have ne:B≠h.next:=by
    obtain⟨_,⟨q,_⟩|⟨_,q⟩⟩:=k.tb
    ·cases q
    ·have:=q.lt w;omega
   have o':=F2.own B _ (by simpa using ne) o;rw[o.ld]at a2;rw[o'.ld];exact a2
 simp only[evs,↓reduceIte,Nat.reduceEqDiff,Nat.reduceAdd,DF,eff,Nat.reduceSub,l0,a2,o2.ld];exact⟨F_h1.fresh F2 w (Nat.le_refl _),by rw[ec]⟩
variable {h : Heap} {b B : Nat} {v : V} {c1 G c2 : List V} {a g m : Nat}
theorem DG{α:Type}{c1 G c2:List α}{p g a:Nat}(l1:c1.length=a*4)(lg:G.length=g*4)(hp:p≤a)(C1:List α)
 (e:C1=(c1++G++c2).take ((p+g) *4)++((c1++G++c2).drop (p*4)).take ((a-p) *4)++(c1++G++c2).drop ((p+g) *4+(a-p) *4)):
 C1.take (p*4)=c1.take (p*4)∧C1.drop (p*4+g*4)=c1.drop (p*4)++c2:=by
 have hl:(p+g) *4≤(c1++G++c2).length:=by simp;omega
 have h1:((c1++G++c2).take ((p+g) *4)).length=p*4+g*4:=by rw[List.length_take];omega
 have h2:((c1++G++c2).drop (p*4)).take ((a-p) *4)=c1.drop (p*4):=by
  rw[List.append_assoc,List.drop_append_of_le_length (by omega),List.take_append_of_le_length (by simp;omega)];exact List.take_of_length_le (by simp;omega)
 have h3:(c1++G++c2).drop ((p+g) *4+(a-p) *4)=c2:=by
  rw[show(p+g) *4+(a-p) *4=(c1++G).length by simp;omega];exact List.drop_left
 subst e;rw[h2,h3];refine⟨?_,?_⟩
 ·rw[List.append_assoc,List.take_append_of_le_length (by omega),List.take_take,Nat.min_eq_left (by omega),List.append_assoc,List.take_append_of_le_length (by omega)]
 ·generalize(c1++G++c2).take ((p+g) *4)=A at h1⊢;rw[←h1,List.append_assoc A];exact List.drop_left
theorem DD{α:Type}{c1 G c2:List α}{p g a m:Nat}(l1:c1.length=a*4)(lg:G.length=g*4)(l2:c2.length=m*4)(hp:a≤p)(hm:p≤a+m)(C1:List α)
 (e:C1=(c1++G++c2).take (a*4)++((c1++G++c2).drop ((a+g) *4)).take ((p+g-(a+g)) *4)++(c1++G++c2).drop (a*4+(p+g-(a+g)) *4)):
 C1.take (p*4)=c1++c2.take ((p-a) *4)∧C1.drop (p*4+g*4)=c2.drop ((p-a) *4):=by
 have h1:(c1++G++c2).take (a*4)=c1:=by rw[←l1,List.append_assoc];exact List.take_left
 have h2:((c1++G++c2).drop ((a+g) *4)).take ((p+g-(a+g)) *4)=c2.take ((p-a) *4):=by
  rw[show(a+g) *4=(c1++G).length by simp;omega,List.drop_left,show p+g-(a+g)=p-a by omega]
 have h3:(c1++c2.take ((p-a) *4)).length=p*4:=by simp;omega
 have h4:p+g-(a+g)=p-a:=by omega
 subst e;rw[h1,h2];refine⟨?_,?_⟩
 ·rw[←h3];exact List.take_left
 ·rw[show p*4+g*4=(c1++c2.take ((p-a) *4)).length+g*4 by omega,List.drop_length_add_append,List.drop_drop,h4,show a*4+(p-a) *4+g*4=(c1++G).length+(p-a) *4 by simp;omega,List.drop_length_add_append]
theorem NoI.rep{z:List V}(h:NoI z):∀n,NoI (bv z n)
 |0=>by rw[fb];intro x m;simp at m
 |n+1=>by rw[d8];exact h.app (NoI.rep h n)
theorem NoI.z4:NoI Z4:=by
 intro x m n;simp at m;rcases m with rfl|rfl|rfl|rfl<;>simp
theorem BF(w:WF h)(k:GpT h b B v c1 G c2 a g m){p:Nat}(hp:p≤a+m):ao go 165 [.ptr b 0,.int .i64 (p:Int)] h fun u h'=>u=.tup []∧
 GpT h' b B v ((c1++c2).take (p*4)) (bv Z4 g) ((c1++c2).drop (p*4)) p g (a+m-p)∧Fr [b,B] h h':=by
 have l0:ab h b 0=some v:=k.ob.ld1 0;have l1:ab h b 1=some (.int .i64 (a:Int)):=k.ob.ld1 1;have l2:ab h b 2=some (.int .i64 (g:Int)):=k.ob.ld1 2;have nb:=k.nb;have am:=k.am;have tot:=k.tot;have n12:NoI (c1++c2):=k.n6.sub fun x m=>by simp at m⊢;rcases m with m|m<;>simp[m]
 have tl:=k.l1;have tg:=k.lg;have t2l:=k.l2;by_cases c:p<a
 ·obtain⟨u1,e1,s1,d1⟩:=k.tb.from (by omega) .i64 ((p:Int)+g) (p+g) (by omega) (by omega);obtain⟨u2,e2,s2,d2⟩:=k.tb.range (by omega) .i64 .i64 p a p a rfl rfl (by omega) (by omega);have⟨c1',c2'⟩:=DG (c2:=c2) k.l1 k.lg (Nat.le_of_lt c) _ rfl;have z1:(c1++c2).take (p*4)=c1.take (p*4):=List.take_append_of_le_length (by omega);have z2:(c1++c2).drop (p*4)=c1.drop (p*4)++c2:=List.drop_append_of_le_length (by omega);rw[←z1]at c1';rw[←z2]at c2';refine ag g165 rfl ?_;simp(disch:=omega) only[fn165,evs,↓reduceIte,Nat.reduceEqDiff,Nat.reduceAdd,eff,ai,l0,l1,l2,e1,e2,show(p:Int)<(a:Int) by omega];refine gR (by omega) w d1 s2 ?_ (by omega) k.tb ?_
  ·rw[List.append_assoc,List.drop_append_of_le_length (by omega),List.take_append_of_le_length (by simp;omega)];exact ef _ (dM _ k.o1)
  rintro h1 t1 F1 n1;have ob1:=F1.own b _ (by simpa using k.ne.symm) k.ob;have l0':ab h1 b 0=some v:=ob1.ld1 0;simp only[evs,↓reduceIte,Nat.reduceEqDiff,Nat.reduceAdd,DF,Nat.reduceSub,l0,l1,l2];refine ah (c':=[v,.int .i64 (p:Int),.int .i64 (g:Int)]) F1.wf ob1 rfl rfl rfl ?_;rintro h2 o2 F2 n2;have t2:=t1.fr F2 (by simpa using k.ne);have l0'':ab h2 b 0=some v:=o2.ld1 0;have l2'':ab h2 b 2=some (.int .i64 (g:Int)):=o2.ld1 2;obtain⟨u3,e3,s3,d3⟩:=t2.range (by omega) .i64 .i64 p ((p:Int)+g) p (p+g) rfl (by omega) (by omega) (by omega);simp(disch:=omega) only[evs,↓reduceIte,Nat.reduceEqDiff,eff,ai,l0'',l2'',e3];refine Bv F2.wf d3 rfl rfl t2 ?_;rintro h3 t3 F3 n3;rw[show p+g-p=g by omega,c1',c2']at t3;simp only[evs,Nat.reduceAdd,DF,Nat.reduceSub,l0'',l2''];refine⟨⟨F3.own b _ (by simpa using k.ne.symm) o2,?_,by simp;omega,eM _ _,by simp;omega,ef _ tot.2,dM _ tot.2,k.ne,by omega,by omega,((n12.sub fun x m=>List.mem_of_mem_take m).app (NoI.rep NoI.z4 g)).app (n12.sub fun x m=>List.mem_of_mem_drop m)⟩,?_⟩
  ·rw[show p+g+(a+m-p)=a+g+m by omega];exact t3
  ·refine Fr.trans (T:=[b,B]) (Fr.trans (T:=[b,B]) F1 F2 w ?_ ?_) F3 w ?_ ?_<;>intro x hx<;>simp at hx⊢ <;>omega
 ·obtain⟨u1,e1,s1,d1⟩:=k.tb.from (by omega) .i64 (a:Int) a rfl (by omega);obtain⟨u2,e2,s2,d2⟩:=k.tb.range (by omega) .i64 .i64 ((a:Int)+g) ((p:Int)+g) (a+g) (p+g) (by omega) (by omega) (by omega) (by omega);have⟨c1',c2'⟩:=DD k.l1 k.lg k.l2 (Nat.le_of_not_lt c) hp _ rfl;have z1:(c1++c2).take (p*4)=c1++c2.take ((p-a) *4):=by
   rw[show p*4=c1.length+(p-a) *4 by omega,List.take_length_add_append]
  have z2:(c1++c2).drop (p*4)=c2.drop ((p-a) *4):=by
   rw[show p*4=c1.length+(p-a) *4 by omega,List.drop_length_add_append]
  rw[←z1]at c1';rw[←z2]at c2';refine ag g165 rfl ?_;simp(disch:=omega) only[fn165,evs,↓reduceIte,Nat.reduceEqDiff,Nat.reduceAdd,eff,ai,l0,l1,l2,e1,e2,show¬(p:Int)<(a:Int) by omega];refine gR (by omega) w d1 s2 ?_ (by omega) k.tb ?_
  ·rw[show(a+g) *4=(c1++G).length by simp;omega,List.drop_left];exact ef _ k.o2
  rintro h1 t1 F1 n1;have ob1:=F1.own b _ (by simpa using k.ne.symm) k.ob;have l0':ab h1 b 0=some v:=ob1.ld1 0;simp only[evs,↓reduceIte,Nat.reduceEqDiff,Nat.reduceAdd,DF,Nat.reduceSub,l0,l1,l2];refine ah (c':=[v,.int .i64 (p:Int),.int .i64 (g:Int)]) F1.wf ob1 rfl rfl rfl ?_;rintro h2 o2 F2 n2;have t2:=t1.fr F2 (by simpa using k.ne);have l0'':ab h2 b 0=some v:=o2.ld1 0;have l2'':ab h2 b 2=some (.int .i64 (g:Int)):=o2.ld1 2;obtain⟨u3,e3,s3,d3⟩:=t2.range (by omega) .i64 .i64 p ((p:Int)+g) p (p+g) rfl (by omega) (by omega) (by omega);simp(disch:=omega) only[evs,↓reduceIte,Nat.reduceEqDiff,eff,ai,l0'',l2'',e3];refine Bv F2.wf d3 rfl rfl t2 ?_;rintro h3 t3 F3 n3;rw[show p+g-p=g by omega,c1',c2']at t3;simp only[evs,Nat.reduceAdd,DF,Nat.reduceSub,l0'',l2''];refine⟨⟨F3.own b _ (by simpa using k.ne.symm) o2,?_,by simp;omega,eM _ _,by simp;omega,ef _ tot.2,dM _ tot.2,k.ne,by omega,by omega,((n12.sub fun x m=>List.mem_of_mem_take m).app (NoI.rep NoI.z4 g)).app (n12.sub fun x m=>List.mem_of_mem_drop m)⟩,?_⟩
  ·rw[show p+g+(a+m-p)=a+g+m by omega];exact t3
  ·refine Fr.trans (T:=[b,B]) (Fr.trans (T:=[b,B]) F1 F2 w ?_ ?_) F3 w ?_ ?_<;>intro x hx<;>simp at hx⊢ <;>omega
variable {h : Heap} {b B : Nat} {v : V} {c1 G c2 : List V} {a g m : Nat}
theorem EM{α:Type}{c1 c2 Z:List α}{a g m:Nat}(l1:c1.length=a*4)(l2:c2.length=m*4)(lz:Z.length=(a+m+g) *4):
 (Z.take 0++c1++Z.drop (0+a*4)).take ((a+g) *4)++c2++(Z.take 0++c1++Z.drop (0+a*4)).drop ((a+g) *4+m*4)=c1++(Z.drop (a*4)).take (g*4)++c2:=by
 simp only[List.take_zero,List.nil_append,Nat.zero_add];have h1:(c1++Z.drop (a*4)).length=(a+g) *4+m*4:=by simp;omega
 rw[←h1,List.drop_length,List.append_nil,show(a+g) *4=c1.length+g*4 by omega,List.take_length_add_append]
theorem TbC.fr'{e:Nat}{h h':Heap}{v:V}{B N:Nat}{C:List V}{S:List Nat}(a:TbC e h v B C N)(f:Fr S h h')(hB:v=.nils∨B∉S):TbC e h' v B C N:=by
 obtain⟨hl,⟨rfl,rfl⟩|⟨rfl,o⟩⟩:=a
 ·exact⟨hl,.inl ⟨rfl,rfl⟩⟩
 ·rcases hB with q|q
  ·cases q
  ·exact⟨hl,.inr ⟨rfl,f.own _ _ q o⟩⟩
theorem yd(w:WF h)(k:GpT h b B v c1 G c2 a g m){n:Nat}(hn:a+m+n≤4096):ao go 166 [.ptr b 0,.int .i64 (n:Int)] h fun u h'=>u=.tup []∧
 ∃B' v' G' g',(B'=B∨h.next≤B')∧GpT h' b B' v' c1 G' c2 a g' m∧n≤g'∧Fr [b] h h':=by
 have l0:ab h b 0=some v:=k.ob.ld1 0;have l1:ab h b 1=some (.int .i64 (a:Int)):=k.ob.ld1 1;have l2:ab h b 2=some (.int .i64 (g:Int)):=k.ob.ld1 2;have nb:=k.nb;have am:=k.am;have blt:=k.ob.lt w;by_cases c:n≤g
 ·refine ag g166 rfl ?_;simp only[fn166,evs,↓reduceIte,Nat.reduceAdd,l2,show(n:Int)≤(g:Int) by omega];exact⟨B,v,G,g,.inl rfl,k,c,Fr.refl w⟩
 ·have hq:(a+g+m)/2≤4104:=by omega
  have q:aP (.ib .quo) [.int .i64 ((a+g+m:Nat):Int),.int .i64 2]=some (.int .i64 (((a+g+m)/2:Nat):Int)):=by
   rw[lT _ _ _ (by decide),show(((a+g+m:Nat):Int)).tdiv 2=(((a+g+m)/2:Nat):Int)from rfl,ai _ (by omega) (by omega)]
  generalize(a+g+m)/2=d at q hq;refine ag g166 rfl ?_;simp(disch:=omega) only[fn166,evs,↓reduceIte,Nat.reduceEqDiff,Nat.reduceAdd,ai,l0,l2,show¬(n:Int)≤(g:Int) by omega,k.tb.len,q];refine aa (dt k) ?_;rintro _ _ ⟨rfl,rfl⟩;simp(disch:=omega) only[evs,↓reduceIte,ai];rw[show((a+m:Nat):Int)+(↑n+ ↑d+8)=((a+m+(n+d+8):Nat):Int) by omega];refine(gw _ _ _ _ _ _ _ _ (by omega) (by omega) (by omega) (by omega)).2 ?_;simp only[Int.toNat_natCast];have ln:(bv Z4 (a+m+(n+d+8))).length=(a+m+(n+d+8)) *4:=eM _ _;obtain⟨h1,e_h1⟩:∃h1,h1=halloc h (bv [.int .u64 0,.int .u8 0,.str [],.nils] (a+m+(n+d+8))):=⟨_,rfl⟩;have F_h1:Fr [] h h1:=e_h1▸Fr.halloc w _;have o_h1:Own h1 h.next (bv Z4 (a+m+(n+d+8))):=e_h1▸Own.new w _;rw[←e_h1];clear e_h1;have nz:NoI (bv Z4 (a+m+(n+d+8))):=NoI.rep NoI.z4 _;generalize bv Z4 (a+m+(n+d+8))=Z at ln o_h1 nz;have k1:=k.fr F_h1 (by simp) (by simp);have l0:ab h1 b 0=some v:=k1.ob.ld1 0;have l1:ab h1 b 1=some (.int .i64 (a:Int)):=k1.ob.ld1 1;have l2:ab h1 b 2=some (.int .i64 (g:Int)):=k1.ob.ld1 2;have tz:TbC 4 h1 (.slice h.next 0 (a+m+(n+d+8)) (a+m+(n+d+8))) h.next Z (a+m+(n+d+8)):=⟨ln,.inr ⟨rfl,o_h1⟩⟩;have nB:v=.nils∨B≠h.next:=by
   obtain⟨_,⟨q,_⟩|⟨_,q⟩⟩:=k.tb
   ·exact .inl q
   ·right;have:=q.lt w;omega
  obtain⟨u2,e2,s2⟩:=k1.tb.upto (by omega) .i64 (a:Int) a rfl (by omega);rw[List.append_assoc,←k.l1,List.take_left]at s2;have d1:Dst 4 h1 h.next Z (.slice h.next 0 (a+m+(n+d+8)) (a+m+(n+d+8))) 0 (a+m+(n+d+8)):=⟨by omega,.inr ⟨_,rfl,o_h1⟩⟩;simp only[evs,↓reduceIte,Nat.reduceEqDiff,eff,l0,l1,e2];refine gR (by omega) F_h1.wf d1 s2 k.o1 (by omega) tz ?_;rintro h2 t2 F2 n2;have ob2:=F2.own b _ (by simp;omega) k1.ob;have tb2:TbC 4 h2 v B (c1++G++c2) (a+g+m):=k1.tb.fr' F2 (nB.imp id (by simp));obtain⟨u3,e3,s3,_⟩:=tb2.from (by omega) .i64 ((a:Int)+g) (a+g) (by omega) (by omega);obtain⟨u4,e4,_,d4⟩:=t2.from (by omega) .i64 ((a:Int)+(n+d+8)) (a+(n+d+8)) (by omega) (by omega);have s3':Sl h2 4 u3 m c2:=by
   rw[show a+g+m-(a+g)=m by omega,show(a+g) *4=(c1++G).length by simp[k.l1,k.lg];omega,List.drop_left]at s3;rwa[List.take_of_length_le (by rw[k.l2];omega)]at s3
  have l0':ab h2 b 0=some v:=ob2.ld1 0;have l1':ab h2 b 1=some (.int .i64 (a:Int)):=ob2.ld1 1;have l2':ab h2 b 2=some (.int .i64 (g:Int)):=ob2.ld1 2;simp(disch:=omega) only[evs,↓reduceIte,Nat.reduceEqDiff,Nat.reduceAdd,DF,eff,Nat.reduceSub,ai,l0,l1,l0',l1',l2',e3,e4];refine gR (by omega) F2.wf d4 s3' k.o2 (by omega) t2 ?_;rintro h3 t3 F3 n3;rw[EM k.l1 k.l2 (by rw[ln])]at t3;have ob3:=F3.own b _ (by simp;omega) ob2;have l0'':ab h3 b 0=some v:=ob3.ld1 0;simp only[evs,↓reduceIte,Nat.reduceEqDiff,Nat.reduceAdd,DF,Nat.reduceSub,l0',l1',l2'];refine ah (c':=[.slice h.next 0 (a+m+(n+d+8)) (a+m+(n+d+8)),.int .i64 (a:Int),.int .i64 (g:Int)]) F3.wf ob3 rfl rfl rfl ?_;rintro h4 ob4 F4 n4;simp only[evs,↓reduceIte,Nat.reduceEqDiff];refine ah (c':=[.slice h.next 0 (a+m+(n+d+8)) (a+m+(n+d+8)),.int .i64 (a:Int),.int .i64 ((n+d+8:Nat):Int)]) F4.wf ob4 rfl rfl rfl ?_;rintro h5 ob5 F5 n5;simp only[evs];refine⟨h.next,.slice h.next 0 (a+m+(n+d+8)) (a+m+(n+d+8)),(Z.drop (a*4)).take ((n+d+8) *4),n+d+8,.inr (Nat.le_refl _),⟨ob5,?_,k.l1,?_,k.l2,k.o1,k.o2,by omega,by omega,by omega,((k.n6.sub fun x m=>by simp[m]).app (nz.sub fun x m=>List.mem_of_mem_drop (List.mem_of_mem_take m))).app (k.n6.sub fun x m=>by simp[m])⟩,by omega,?_⟩
  ·have t5:=(t3.fr F4 (by simp;omega)).fr F5 (by simp;omega);rw[show a+m+(n+d+8)=a+(n+d+8)+m by omega]at t5⊢;exact t5
  ·simp[ln];omega
  ·have f1:Fr [h.next] h h2:=Fr.trans F_h1 F2 w (by simp) (by simp);have f2:Fr [h.next] h h3:=Fr.trans f1 F3 w (by simp) (by simp);have f3:Fr [b] h h3:=⟨f2.next,f2.wf,fun x c hx o=>f2.own x c (by have:=o.lt w;simp;omega) o,fun x c hx o=>f2.pl x c (by have:=o.own.lt w;simp;omega) o,f2.lp,f2.ro⟩;exact Fr.trans (Fr.trans f3 F4 w (fun x hx=>.inl hx) (fun x hx=>.inl hx)) F5 w (fun x hx=>.inl hx) (fun x hx=>.inl hx)
variable {h : Heap} {b B : Nat}
theorem wY{n p:Nat}(h:p≤n):vU n p 0=0:=by unfold vU;rw[if_neg];omega
theorem HK{α:Type}{c1 G c2 xs:List α}{p q:Nat}(l1:c1.length=p*4)(lx:xs.length=q*4)(lg:q*4≤G.length):
 (c1++G++c2).take (p*4)++xs++(c1++G++c2).drop (p*4+q*4)=(c1++xs)++G.drop (q*4)++c2:=by
 rw[←l1,List.append_assoc c1 G c2,List.take_left,List.drop_length_add_append,List.drop_append_of_le_length lg];simp
theorem vV{n q p:Nat}{l xs:List V}{u:V}(w:WF h)(k:Gp h b B n l)(s:∀h',Fr [b,B] h h'→Sl h' 4 u q xs)(ox:aq xs=true)(nx:NoI xs)(hp:p≤n)(hq:n+q≤4096):
 ao go 91 [.ptr b 0,.int .i64 (p:Int),u] h fun z h'=>z=.int .i64 0∧∃B',(B'=B∨h.next≤B')∧Gp h' b B' (n+q) (l.take (p*4)++xs++l.drop (p*4))∧Fr [b,B] h h':=by
 obtain⟨v,c1,G,c2,a,g,m,k,rfl,rfl⟩:=k;have s0:=s h (Fr.refl w);have lx:=s0.1;have am:=k.am;by_cases c0:q=0
 ·subst c0;refine ag g91 rfl ?_;simp only[fn91,evs,↓reduceIte,Nat.reduceEqDiff,Nat.reduceAdd];refine aa (jh k (p:Int) 0) ?_;rintro _ _ ⟨rfl,rfl⟩;simp only[evs,↓reduceIte,Nat.reduceEqDiff,wY hp,s0.len];refine aa (dt k) ?_;rintro _ _ ⟨rfl,rfl⟩;simp(disch:=omega) only[evs,↓reduceIte,Nat.reduceEqDiff,ai,show¬(4096-((a+m:Nat):Int)<((0:Nat):Int)) by omega,s0.len,show(((0:Nat):Int)=0)=True by simp];have hx:xs=[]:=List.length_eq_zero_iff.1 (by omega);subst hx;refine⟨B,.inl rfl,⟨v,c1,G,c2,a,g,m,k,by simp,by omega⟩,Fr.refl w⟩
 ·have nh:4096-((a+m:Nat):Int)<(q:Int)↔False:=by simp;omega
  have nz:(q:Int)=0↔False:=by simp;omega
  have sl:=s0.len;refine ag g91 rfl ?_;simp only[fn91,evs,↓reduceIte,Nat.reduceEqDiff,Nat.reduceAdd];refine aa (jh k (p:Int) 0) ?_;rintro _ _ ⟨rfl,rfl⟩;simp only[evs,↓reduceIte,Nat.reduceEqDiff,wY hp,sl];refine aa (dt k) ?_;rintro _ _ ⟨rfl,rfl⟩;simp(disch:=omega) only[evs,↓reduceIte,Nat.reduceEqDiff,ai,nh,sl,nz];refine aa (BF w k hp) ?_;rintro _ h1 ⟨rfl,k1,F1⟩;simp only[evs,↓reduceIte,Nat.reduceEqDiff,sl];refine aa (yd F1.wf k1 (n:=q) (by omega)) ?_;rintro _ h2 ⟨rfl,B',v',G',g',hB,k2,hg,F2⟩;have F02:Fr [b,B] h h2:=Fr.trans F1 F2 w (fun x hx=>.inl hx) (fun x hx=>.inl (by simp at hx;simp[hx]));have s2:=s h2 F02;have l0:ab h2 b 0=some v':=k2.ob.ld1 0;have l1:ab h2 b 1=some (.int .i64 (p:Int)):=k2.ob.ld1 1;have nb2:=k2.nb;obtain⟨u1,e1,_,d1⟩:=k2.tb.from (by omega) .i64 (p:Int) p rfl (by omega);simp only[evs,↓reduceIte,Nat.reduceEqDiff,eff,l0,l1,e1];refine gR (by omega) F2.wf d1 s2 ox (by omega) k2.tb ?_;rintro h3 t3 F3 n3;rw[HK k2.l1 lx (by rw[k2.lg];omega)]at t3;have ob3:=F3.own b _ (by simpa using k2.ne.symm) k2.ob;have l1':ab h3 b 1=some (.int .i64 (p:Int)):=ob3.ld1 1;simp(disch:=omega) only[evs,eff,ai];refine ah (c':=[v',.int .i64 ((p+q:Nat):Int),.int .i64 (g':Int)]) F3.wf ob3 rfl rfl rfl ?_;rintro h4 ob4 F4 n4;have l2:ab h4 b 2=some (.int .i64 (g':Int)):=ob4.ld1 2;simp(disch:=omega) only[evs,↓reduceIte,Nat.reduceEqDiff,Nat.reduceAdd,DF,Nat.reduceSub,ai,l0,l1,l1',l2,sl];refine ah (c':=[v',.int .i64 ((p+q:Nat):Int),.int .i64 ((g'-q:Nat):Int)]) F4.wf ob4 rfl rfl (by rw[show((g'-q:Nat):Int)=(g':Int)-q by omega];rfl) ?_;rintro h5 ob5 F5 n5;simp only[evs,↓reduceIte];have ne:=k2.ne;have tl:=k2.l1;have tg:=k2.lg;have t2:=k2.l2;refine⟨B',hB.imp id (fun q=>Nat.le_trans F1.next q),⟨v',(c1++c2).take (p*4)++xs,G'.drop (q*4),(c1++c2).drop (p*4),p+q,g'-q,a+m-p,⟨ob5,?_,?_,?_,t2,?_,k2.o2,ne,by omega,by omega,((NoI.app (k2.n6.sub fun x m=>by simp[m]) nx).app (k2.n6.sub fun x m=>by simp[List.mem_of_mem_drop m])).app (k2.n6.sub fun x m=>by simp[m])⟩,by simp,by omega⟩,?_⟩
  ·exact(show p+g'+(a+m-p)=p+q+(g'-q)+(a+m-p) by omega)▸(t3.fr F4 (by simpa using ne)).fr F5 (by simpa using ne)
  ·rw[List.length_append];omega
  ·rw[List.length_drop];omega
  ·rw[aL,k2.o1,ox];rfl
  ·have f3:Fr [b,B] h h3:=Fr.trans F02 F3 w (fun x hx=>.inl hx) (fun x hx=>by
    simp at hx;subst hx;rcases hB with rfl|hB
    ·exact .inl (by simp)
    ·exact .inr (Nat.le_trans F1.next hB))
   exact Fr.trans (Fr.trans f3 F4 w (fun x hx=>.inl hx) (fun x hx=>.inl (by simp at hx;simp[hx]))) F5 w (fun x hx=>.inl hx) (fun x hx=>.inl (by simp at hx;simp[hx]))
theorem Fr.new{h h1 h2:Heap}{S:List Nat}(w:WF h)(f1:Fr [] h h1)(f2:Fr S h1 h2)(hs:∀x∈S,h.next≤x):Fr [] h h2:=
 Fr.trans f1 f2 w (fun x hx=>.inl hx) (fun x hx=>.inr (hs x hx))
variable {h : Heap} {b B : Nat}
theorem um{n:Nat}{l:List V}(k:Gp h b B n l):ao go 52 [.ptr b 0] h fun u h'=>u=.int .i64 (n:Int)∧h=h':=by
 obtain⟨v,c1,G,c2,a,g,m,k,rfl,rfl⟩:=k;exact dt k
theorem GL{α:Type}{c1 c2 Z:List α}{a m:Nat}(l1:c1.length=a*4)(l2:c2.length=m*4)(lz:Z.length=(a+m) *4):
 (Z.take 0++c1++Z.drop (0+a*4)).take (a*4)++c2++(Z.take 0++c1++Z.drop (0+a*4)).drop (a*4+m*4)=c1++c2:=by
 simp only[List.take_zero,List.nil_append,Nat.zero_add];have h1:(c1++Z.drop (a*4)).length=a*4+m*4:=by simp;omega
 rw[←h1,List.drop_length,List.append_nil,←l1,List.take_left]
theorem A3{n:Nat}{l:List V}(w:WF h)(k:Gp h b B n l):ao go 65 [.ptr b 0] h fun u h'=>∃b',h.next≤b'∧TbC 4 h' u b' l n∧Fr [] h h':=by
 obtain⟨v,c1,G,c2,a,g,m,k,rfl,rfl⟩:=k;have am:=k.am;have nb:=k.nb;have blt:=k.ob.lt w;have tot:=k.tot;by_cases c0:a+m=0
 ·refine ag g65 rfl ?_;simp only[fn65,evs,↓reduceIte,Nat.reduceEqDiff];refine aa (dt k) ?_;rintro _ _ ⟨rfl,rfl⟩;simp only[evs,↓reduceIte,show(((a+m:Nat):Int)=0)↔True by simp;omega];exact⟨h.next,Nat.le_refl _,⟨by rw[tot.1],.inl ⟨rfl,c0⟩⟩,Fr.refl w⟩
 ·have nz:(((a+m:Nat):Int)=0)↔False:=by simp;omega
  refine ag g65 rfl ?_;simp only[fn65,evs,↓reduceIte,Nat.reduceEqDiff];refine aa (dt k) ?_;rintro _ _ ⟨rfl,rfl⟩;simp only[evs,↓reduceIte,Nat.reduceEqDiff,nz];refine aa (dt k) ?_;rintro _ _ ⟨rfl,rfl⟩;simp only[evs];refine(gw _ _ _ _ _ _ _ _ (by omega) (by omega) (by omega) (by omega)).2 ?_;simp only[Int.toNat_natCast];have ln:(bv Z4 (a+m)).length=(a+m) *4:=eM _ _;obtain⟨h1,e_h1⟩:∃h1,h1=halloc h (bv [.int .u64 0,.int .u8 0,.str [],.nils] (a+m)):=⟨_,rfl⟩;have F_h1:Fr [] h h1:=e_h1▸Fr.halloc w _;have o_h1:Own h1 h.next (bv Z4 (a+m)):=e_h1▸Own.new w _;rw[←e_h1];clear e_h1;generalize bv Z4 (a+m)=Z at ln o_h1;have k1:=k.fr F_h1 (by simp) (by simp);have l0:ab h1 b 0=some v:=k1.ob.ld1 0;have l1:ab h1 b 1=some (.int .i64 (a:Int)):=k1.ob.ld1 1;have l2:ab h1 b 2=some (.int .i64 (g:Int)):=k1.ob.ld1 2;have tz:TbC 4 h1 (.slice h.next 0 (a+m) (a+m)) h.next Z (a+m):=⟨ln,.inr ⟨rfl,o_h1⟩⟩;have nB:v=.nils∨B≠h.next:=by
   obtain⟨_,⟨q,_⟩|⟨_,q⟩⟩:=k.tb
   ·exact .inl q
   ·right;have:=q.lt w;omega
  obtain⟨u2,e2,s2⟩:=k1.tb.upto (by omega) .i64 (a:Int) a rfl (by omega);rw[List.append_assoc,←k.l1,List.take_left]at s2;have d1:Dst 4 h1 h.next Z (.slice h.next 0 (a+m) (a+m)) 0 (a+m):=⟨by omega,.inr ⟨_,rfl,o_h1⟩⟩;simp only[evs,↓reduceIte,Nat.reduceEqDiff,eff,l0,l1,e2];refine gR (by omega) F_h1.wf d1 s2 k.o1 (by omega) tz ?_;rintro h2 t2 F2 n2;have ob2:=F2.own b _ (by simp;omega) k1.ob;have tb2:TbC 4 h2 v B (c1++G++c2) (a+g+m):=k1.tb.fr' F2 (nB.imp id (by simp));obtain⟨u3,e3,s3,_⟩:=tb2.from (by omega) .i64 ((a:Int)+g) (a+g) (by omega) (by omega);obtain⟨u4,e4,_,d4⟩:=t2.from (by omega) .i64 (a:Int) a rfl (by omega);have s3':Sl h2 4 u3 m c2:=by
   rw[show a+g+m-(a+g)=m by omega,show(a+g) *4=(c1++G).length by simp[k.l1,k.lg];omega,List.drop_left]at s3;rwa[List.take_of_length_le (by rw[k.l2];omega)]at s3
  have l0':ab h2 b 0=some v:=ob2.ld1 0;have l1':ab h2 b 1=some (.int .i64 (a:Int)):=ob2.ld1 1;have l2':ab h2 b 2=some (.int .i64 (g:Int)):=ob2.ld1 2;simp(disch:=omega) only[evs,↓reduceIte,Nat.reduceEqDiff,Nat.reduceAdd,DF,eff,Nat.reduceSub,ai,l0,l1,l0',l1',l2',e3,e4];refine gR (by omega) F2.wf d4 s3' k.o2 (by omega) t2 ?_;rintro h3 t3 F3 n3;rw[GL k.l1 k.l2 (by rw[ln])]at t3;simp only[evs,↓reduceIte,Nat.reduceAdd,DF,Nat.reduceSub,l0',l1',l2'];exact⟨h.next,Nat.le_refl _,t3,Fr.new w F_h1 (Fr.trans F2 F3 F_h1.wf (fun x hx=>.inl hx) (fun x hx=>.inl hx)) (by simp)⟩
def ItQ(h:Heap)(nx:Bool)(o:Option V)(K:V→Heap→Prop):Prop:=∃d,o=some d∧OQ (ait h nx d) K
theorem pD{h:Heap}(nx:Bool)(d:V)(K:V→Heap→Prop):ItQ h nx (some d) K↔OQ (ait h nx d) K:=
 ⟨fun⟨_,e,k⟩=>by cases e;exact k,fun k=>⟨d,rfl,k⟩⟩
theorem AB{call:av}{loc:List V}{env:T V}{h:Heap}(nx:Bool)(x:Opd)(K:V→Heap→Prop):OQ (aG call loc env h (.it nx x)) K↔ItQ h nx (evO loc env x) K:=by
 simp only[aG,OQ,ItQ];cases evO loc env x with
 |none=>simp
 |some d=>simp
theorem Fk{h:Heap}(z:List UInt8)(K:V→Heap→Prop):OQ (ait h false (.str z)) K↔K (.ptr h.next 0) (hnew h (.si z 0)):=cC _ _ _
theorem Fm{h:Heap}{b pos:Nat}{z:List UInt8}(hb:h.bl.get b=some (.si z pos))(hp:¬pos<z.length)(K:V→Heap→Prop):OQ (ait h true (.ptr b 0)) K↔K (.tup [.bool false]) h:=by
 show OQ (match h.bl.get b with|some (.si z pos)=>_|_=>_) K↔_
 rw[hb];simp only[if_neg hp];exact cC _ _ _
theorem Di{h:Heap}{b pos:Nat}{z:List UInt8}(hb:h.bl.get b=some (.si z pos))(hp:pos<z.length)(K:V→Heap→Prop):OQ (ait h true (.ptr b 0)) K↔
 K (.tup [.bool true,.int .i64 (pos:Int),.int .i32 ((Utf8.decode ⟨z.toArray⟩ pos).1:Int)]) (hset h b (.si z (pos+(Utf8.decode ⟨z.toArray⟩ pos).2))):=by
 show OQ (match h.bl.get b with|some (.si z pos)=>_|_=>_) K↔_
 rw[hb];simp only[if_pos hp];exact cC _ _ _
theorem _root_.Go.Ev.WF.hset{h:Heap}(w:WF h){b:Nat}{x:Blk}(hb:h.bl.get b=some x)(y:Blk):WF (hset h b y):=by
 intro p hp;obtain⟨q1,q2⟩:=w p hp;refine⟨?_,q2⟩;show(h.bl.set b y).get p=none;rw[T.get_set,if_neg (by rintro rfl;rw[hb]at q1;cases q1)];exact q1
theorem Fr.si{h:Heap}(w:WF h){b pos pos':Nat}{z:List UInt8}(hb:h.bl.get b=some (.si z pos)):Fr [] h (hset h b (.si z pos')) where
 next:=Nat.le_refl _
 wf:=WF.hset w hb _
 own:=fun x c _⟨f,k,e,q⟩=>⟨f,k,by
  show(h.bl.set b _).get x=_;rw[T.get_set,if_neg (by rintro rfl;rw[hb]at e;cases e)];exact e,q⟩
 pl:=fun x c _⟨⟨k,e⟩,q⟩=>⟨⟨k,by
  show(h.bl.set b _).get x=_;rw[T.get_set,if_neg (by rintro rfl;rw[hb]at e;cases e)];exact e⟩,q⟩
 lp:=fun x k hk e=>by
  show(h.bl.set b _).get x=_;rw[T.get_set,if_neg (by rintro rfl;rw[hb]at e;cases e;cases hk)];exact e
 ro:=fun x c⟨f,k,ow,e,q1,q2,q3⟩=>⟨f,k,ow,by
  show(h.bl.set b _).get x=_;rw[T.get_set,if_neg (by rintro rfl;rw[hb]at e;cases e)];exact e,q1,by
  show(h.bl.set b _).get ow=_;rw[T.get_set,if_neg (by rintro rfl;rw[hb]at q2;cases q2)];exact q2,q3⟩
def Cl(g:Nat)(p:Int→Bool):Prop:=g<1099511627776∧(∀(r:Int)(h:Heap),ao go g [.int .i32 r] h fun u h'=>u=.bool (p r)∧h=h')∧∀r:Int,128≤r→p r=true
def dO(p:Int→Bool)(z:List UInt8):Bool:=z.any fun b=>p (b.toNat:Int)
theorem FB(z:List UInt8)(pos:Nat)(hp:pos<z.length)(p:Int→Bool)(h128:∀r:Int,128≤r→p r=true):
 (p ((Utf8.decode ⟨z.toArray⟩ pos).1:Int)=p ((z[pos]).toNat:Int))∧(p ((z[pos]).toNat:Int)=false→(Utf8.decode ⟨z.toArray⟩ pos).2=1):=by
 have hs:pos<(ByteArray.mk z.toArray).size:=hp;have he:(ByteArray.mk z.toArray)[pos]'hs=z[pos]:=rfl;by_cases c:(z[pos]).toNat<128
 ·have:=Go.decode_ascii ⟨z.toArray⟩ pos hs (by rw[he];exact c);rw[this,he];exact⟨rfl,fun _=>rfl⟩
 ·have:=Go.decode_high ⟨z.toArray⟩ pos hs (by rw[he];omega);rw[h128 _ (by omega),h128 _ (by omega)];exact⟨rfl,fun e=>by cases e⟩
theorem qu{h:Heap}{z:List UInt8}{g:Nat}{p:Int→Bool}(w:WF h)(P:Cl g p)(hz:z.length<16777216):
 ao go 265 [.str z,.func (.func g) [] [],.bool true] h fun u h'=>∃r:Int,u=.int .i64 r∧(decide (0≤r)=dO p z)∧Fr [] h h':=by
 obtain⟨hg,hp,h128⟩:=P;obtain⟨h1,e_h1⟩:∃h1,h1=hnew h (.si z 0):=⟨_,rfl⟩;have F_h1:Fr [] h h1:=e_h1▸Fr.hnew w _;have b1:h1.bl.get h.next=some (.si z 0):=by rw[e_h1];exact uf _ _
 refine ag g265 rfl ?_;simp only[fn265,evs,↓reduceIte,Nat.reduceEqDiff,Nat.reduceAdd,Int.reduceNeg,AB,pD,Fk,←e_h1];refine aE (fun k env hh=>Fr [] h hh∧∃(i:Nat),env.get 10=some (.ptr h.next 0)∧env.get 1=some (.func (.func g) [] [])∧env.get 2=some (.bool true)∧hh.bl.get h.next=some (.si z i)∧
  i≤z.length∧dO p (z.drop i)=dO p z∧k=z.length-i) z.length (by omega) ?_ ?_
 ·exact⟨F_h1,0,(by simp[T.get_set]),(by simp[T.get_set]),(by simp[T.get_set]),b1,by omega,rfl,rfl⟩
 ·rintro k env hh ⟨F,i,g10,g1,g2,bb,hi,e,rfl⟩;by_cases hlt:i<z.length
  ·have⟨d1,d2⟩:=FB z i hlt p h128;have F1:Fr [] hh (hset hh h.next (.si z (i+(Utf8.decode ⟨z.toArray⟩ i).2))):=Fr.si F.wf bb;have b2:=AY hh h.next (.si z (i+(Utf8.decode ⟨z.toArray⟩ i).2));rw[List.drop_eq_getElem_cons hlt]at e;simp only[evs,↓reduceIte,Nat.reduceEqDiff,Int.reduceNeg,g10,g1,AB,pD,Di bb hlt,hg];refine aa (hp _ _) ?_;rintro _ h2 ⟨rfl,rfl⟩;cases c:p ((z[i]).toNat:Int)
   ·have w1:=d2 c;rw[c]at d1;rw[w1]at F1 b2⊢;simp only[evs,↓reduceIte,Nat.reduceEqDiff,Int.reduceNeg,d1,g2];unfold dO at e;rw[List.any_cons,c,Bool.false_or]at e;refine(aj _ _ _).2 ⟨z.length-(i+1),by omega,F.then F1,i+1,(by simp[T.get_set,g10]),(by simp[T.get_set,g1]),(by simp[T.get_set,g2]),b2,by omega,e,rfl⟩
    done
   ·rw[c]at d1;simp only[evs,↓reduceIte,Nat.reduceEqDiff,Int.reduceNeg,d1,g2];unfold dO at e⊢;rw[List.any_cons,c,Bool.true_or]at e;exact⟨i,rfl,by rw[←e];simp,F.then F1⟩
  ·simp only[evs,↓reduceIte,Int.reduceNeg,g10,AB,pD,Fm bb hlt];rw[List.drop_of_length_le (by omega)]at e;exact⟨-1,rfl,by rw[←e];rfl,F⟩
theorem mt{h:Heap}{z:List UInt8}{g:Nat}{p:Int→Bool}(w:WF h)(P:Cl g p)(hz:z.length<16777216):
 ao go 172 [.str z,.func (.func g) [] []] h fun u h'=>u=.bool (dO p z)∧Fr [] h h':=by
 refine ag g172 rfl ?_;simp only[fn172,evs,↓reduceIte,Nat.reduceEqDiff,Nat.reduceAdd];refine aa (?_:ao go 230 _ _ (fun u h'=>∃r:Int,u=.int .i64 r∧(decide (0≤r)=dO p z)∧Fr [] h h')) ?_
 ·refine ag g230 rfl ?_;simp only[fn230,evs,↓reduceIte,Nat.reduceEqDiff,Nat.reduceAdd];refine aa (qu w P hz) ?_;rintro _ h1 ⟨r,rfl,e,F⟩;simp only[evs,↓reduceIte];exact⟨r,rfl,e,F⟩
 ·rintro _ h1 ⟨r,rfl,e,F⟩;simp only[evs,↓reduceIte];exact⟨by rw[e],F⟩
def fH(r:Int):Bool:=decide (r<32)||decide (126<r)
def cI(r:Int):Bool:=(decide (r<97)||decide (122<r))&&(decide (r<48)||decide (57<r))
theorem HW:Cl 173 fH:=⟨by decide,fun r h=>by
 by_cases c:r<32
 ·refine ag g173 rfl ?_;simp only[fn173,evs,↓reduceIte,Nat.reduceEqDiff,c];simp[fH,c]
 ·refine ag g173 rfl ?_;simp only[fn173,evs,↓reduceIte,Nat.reduceEqDiff,c];simp[fH,c],fun r hr=>by simp[fH];omega⟩
theorem HV:Cl 232 cI:=⟨by decide,fun r h=>by
 by_cases c:r<97
 ·by_cases d:r<48
  ·refine ag g232 rfl ?_;simp only[fn232,evs,↓reduceIte,Nat.reduceEqDiff,c,d];simp[cI,c,d]
  ·refine ag g232 rfl ?_;simp only[fn232,evs,↓reduceIte,Nat.reduceEqDiff,c,d];simp[cI,c,d]
 ·by_cases c':(122:Int)<r
  ·by_cases d:r<48
   ·refine ag g232 rfl ?_;simp only[fn232,evs,↓reduceIte,Nat.reduceEqDiff,c,d,c'];simp[cI,c,d,c']
   ·refine ag g232 rfl ?_;simp only[fn232,evs,↓reduceIte,Nat.reduceEqDiff,c,d,c'];simp[cI,c,d,c']
  ·refine ag g232 rfl ?_;simp only[fn232,evs,↓reduceIte,Nat.reduceEqDiff,c,c'];simp[cI,c,c'],fun r hr=>by simp[cI];omega⟩
def okT(z:List UInt8):Bool:=decide (z.length≤64)&& !dO fH z
def okN(z:List UInt8):Bool:=decide (0<z.length)&&(decide (z.length≤16)&& !dO cI z)
theorem aC(a:List UInt8):aP .lenStr [.str a]=some (.int .i64 (a.length:Nat)):=rfl
theorem aR(a b:List UInt8):aP (.sb .neq) [.str a,.str b]=some (.bool (!(a==b))):=rfl
theorem aI(a b:List UInt8):aP (.sb .eql) [.str a,.str b]=some (.bool (a==b)):=rfl
theorem iQ(z:List UInt8):(z==[])=decide (z.length=0):=by cases z<;>rfl
theorem C6{h:Heap}{z:List UInt8}(w:WF h):ao go 177 [.str z] h fun u h'=>u=.bool (okN z)∧Fr [] h h':=by
 by_cases c0:z.length=0
 ·refine ag g177 rfl ?_;simp only[fn177,evs,↓reduceIte,Nat.reduceEqDiff,aR,iQ,c0];exact⟨by simp[okN,c0],Fr.refl w⟩
 ·by_cases c1:z.length≤16
  ·refine ag g177 rfl ?_;simp only[fn177,evs,↓reduceIte,Nat.reduceEqDiff,aC,aR,iQ,c0,show(z.length:Int)≤16 by omega];refine aa (mt w HV (by omega)) ?_;rintro _ h1 ⟨rfl,F⟩;simp only[evs,↓reduceIte];exact⟨by simp[okN,c1];intro _;omega,F⟩
  ·refine ag g177 rfl ?_;simp only[fn177,evs,↓reduceIte,Nat.reduceEqDiff,aC,aR,iQ,c0,show¬(z.length:Int)≤16 by omega];exact⟨by simp[okN,c1],Fr.refl w⟩
abbrev sS(s:List UInt8):List V:=[.str s]
theorem gI(s:List UInt8):(sS s).length=1:=rfl
theorem AG{h:Heap}{z:List UInt8}(w:WF h):ao go 176 [.str z] h fun u h'=>u=.bool (!okN z)∧Fr [] h h':=by
 refine ag g176 rfl ?_;simp only[fn176,evs,↓reduceIte,Nat.reduceEqDiff];refine aa (C6 w) ?_;rintro _ h1 ⟨rfl,F⟩;simp only[evs,↓reduceIte];exact F
def D2(g:Nat):Prop:=g<1099511627776∧∀(z:List UInt8)(h:Heap),WF h→ao go g [.str z] h fun u h'=>u=.bool (!okN z)∧Fr [] h h'
theorem HY:D2 176:=⟨by decide,fun _ _ w=>AG w⟩
theorem yN{h:Heap}{v:V}{g:Nat}{L:List (List UInt8)}(P:D2 g)(w:WF h)(a:ARecs sS 1 h v L)(hn:L.length≤4096):
 ao go 231 [v,.func (.func g) [] []] h fun u h'=>∃r:Int,u=.int .i64 r∧(decide (0≤r)= !L.all okN)∧Fr [] h h':=by
 refine ag g231 rfl ?_;simp only[fn231,evs,↓reduceIte,Nat.reduceEqDiff,Nat.reduceAdd,Int.reduceNeg,a.len];refine aE (fun k env hh=>Fr [] h hh∧∃(i:Nat),env.get 8=some (.int .i64 i)∧env.get 7=some (.int .i64 L.length)∧env.get 0=some v∧env.get 1=some (.func (.func g) [] [])∧
  i≤L.length∧(L.drop i).all okN=L.all okN∧k=L.length-i) L.length (by omega) ?_ ?_
 ·exact⟨Fr.refl w,0,(by simp[T.get_set]),(by simp[T.get_set]),(by simp[T.get_set]),(by simp[T.get_set]),by omega,rfl,rfl⟩
 ·rintro k env hh ⟨F,i,g8,g7,g0,g1,hi,e,rfl⟩;by_cases hlt:i<L.length
  ·have hlt':(i:Int)<L.length:=by omega
   obtain⟨b,o,s,e1,e2,_,e5⟩:=(a.fr F).ix gI .i64 i (by omega) hlt';have e4:ab hh b o=some (.str s):=e2 0 (by omega);rw[Int.toNat_natCast]at e5;rw[aK e5,List.all_cons]at e;simp only[evs,↓reduceIte,Nat.reduceEqDiff,Int.reduceNeg,g8,g7,g0,g1,hlt',e1,e4,P.1];refine aa (P.2 _ _ F.wf) ?_;rintro _ h1 ⟨rfl,F1⟩;cases c:okN s
   ·simp only[evs,↓reduceIte,Nat.reduceEqDiff,Int.reduceNeg];rw[c]at e;exact⟨i,rfl,by rw[←e];simp,F.then F1⟩
   ·simp(disch:=omega) only[evs,↓reduceIte,Nat.reduceEqDiff,Int.reduceNeg,ai,g8];rw[c]at e;refine(aj _ _ _).2 ⟨L.length-(i+1),by omega,F.then F1,i+1,(by simp[T.get_set]),(by simp[T.get_set,g7]),(by simp[T.get_set,g0]),(by simp[T.get_set,g1]),by omega,by simpa using e,rfl⟩
    done
  ·simp only[evs,↓reduceIte,Int.reduceNeg,g8,g7,show¬(i:Int)<L.length by omega];rw[List.drop_of_length_le (by omega)]at e;exact⟨-1,rfl,by rw[←e];rfl,F⟩
theorem kK{h:Heap}{v:V}{g:Nat}{L:List (List UInt8)}(P:D2 g)(w:WF h)(a:ARecs sS 1 h v L)(hn:L.length≤4096):
 ao go 175 [v,.func (.func g) [] []] h fun u h'=>u=.bool (!L.all okN)∧Fr [] h h':=by
 refine ag g175 rfl ?_;simp only[fn175,evs,↓reduceIte,Nat.reduceEqDiff,Nat.reduceAdd];refine aa (yN P w a hn) ?_;rintro _ h1 ⟨r,rfl,e,F⟩;simp only[evs,↓reduceIte];exact⟨by rw[e],F⟩
structure Itm where
 key:Nat
 type:Nat
 text:List UInt8
 marks:List (List UInt8)
 vm:V
def Itm.cells(x:Itm):List V:=[.int .u64 (x.key:Int),.int .u8 (x.type:Int),.str x.text,x.vm]
structure ItmH(h:Heap)(x:Itm):Prop where
 k:x.key<18446744073709551616
 t:x.type<256
 m:ARecs sS 1 h x.vm x.marks
 n:x.marks.length≤4096
 l:x.text.length<16777216
theorem ItmH.fr{h h':Heap}{x:Itm}(a:ItmH h x)(f:Fr [] h h'):ItmH h' x:=⟨a.k,a.t,a.m.fr f,a.n,a.l⟩
theorem ItmH.one{h:Heap}{x:Itm}(a:ItmH h x):aq x.cells=true:=by
 show aq [.int .u64 (x.key:Int),.int .u8 (x.type:Int),.str x.text,x.vm]=true;simp only[aD,aJ,a.m.one];rfl
def okM(ms:List (List UInt8)):Bool:=decide (ms.length≤8)&&ms.all okN
def okI(x:Itm)(types:Nat):Bool:=decide (x.key≠0)&&(decide (x.type<types)&&(okT x.text&&okM x.marks))
theorem CI{h:Heap}{x:Itm}{b:Nat}(w:WF h)(a:ItmH h x)(o:Own h b x.cells):ao go 171 [.ptr b 0] h fun u h'=>u=.bool (okT x.text)∧Fr [] h h':=by
 have l2:ab h b 2=some (.str x.text):=o.ld1 2;by_cases c:x.text.length≤64
 ·refine ag g171 rfl ?_;simp only[fn171,evs,↓reduceIte,l2,aC,show(x.text.length:Int)≤64 by omega];refine aa (mt w HW a.l) ?_;rintro _ h1 ⟨rfl,F⟩;simp only[evs,↓reduceIte];exact⟨by simp[okT,c],F⟩
 ·refine ag g171 rfl ?_;simp only[fn171,evs,↓reduceIte,l2,aC,show¬(x.text.length:Int)≤64 by omega];exact⟨by simp[okT,c],Fr.refl w⟩
theorem AI{h:Heap}{x:Itm}{b:Nat}(w:WF h)(a:ItmH h x)(o:Own h b x.cells):ao go 174 [.ptr b 0] h fun u h'=>u=.bool (okM x.marks)∧Fr [] h h':=by
 have l2:ab h b 3=some x.vm:=o.ld1 3;by_cases c:x.marks.length≤8
 ·refine ag g174 rfl ?_;simp only[fn174,evs,↓reduceIte,l2,a.m.len,show(x.marks.length:Int)≤8 by omega];refine aa (kK HY w a.m a.n) ?_;rintro _ h1 ⟨rfl,F⟩;simp only[evs,↓reduceIte];exact⟨by simp[okM,c],F⟩
 ·refine ag g174 rfl ?_;simp only[fn174,evs,↓reduceIte,l2,a.m.len,show¬(x.marks.length:Int)≤8 by omega];exact⟨by simp[okM,c],Fr.refl w⟩
theorem BC{h:Heap}{x:Itm}{types:Nat}(w:WF h)(a:ItmH h x)(ht:types<256):ao go 102 [.agg x.cells,.int .i64 (types:Int)] h fun u h'=>u=.int .i64 (if okI x types then 0 else 6)∧Fr [] h h':=by
 obtain⟨h1,e_h1⟩:∃h1,h1=halloc h x.cells:=⟨_,rfl⟩;have F_h1:Fr [] h h1:=e_h1▸Fr.halloc w _;have o_h1:Own h1 h.next x.cells:=e_h1▸Own.new w _;have l0:ab h1 h.next 0=some (.int .u64 (x.key:Int)):=o_h1.ld1 0;have l1:ab h1 h.next 1=some (.int .u8 (x.type:Int)):=o_h1.ld1 1;have xt:=a.t;by_cases c0:x.key=0
 ·refine ag g102 rfl ?_;simp only[fn102,evs,↓reduceIte,Nat.reduceEqDiff,Nat.reduceAdd,←e_h1,l0,show(x.key:Int)=0 by omega];exact⟨by simp[okI,c0],F_h1⟩
 by_cases c1:x.type<types
 ·refine ag g102 rfl ?_;simp(disch:=omega) only[fn102,evs,↓reduceIte,Nat.reduceEqDiff,Nat.reduceAdd,Nat.reduceLT,ai,←e_h1,l0,show¬(x.key:Int)=0 by omega,l1,show¬(types:Int)≤x.type by omega];refine aa (CI F_h1.wf (a.fr F_h1) o_h1) ?_;rintro _ h2 ⟨rfl,F2⟩;cases c2:okT x.text
  ·simp only[evs,↓reduceIte];exact⟨by simp[okI,c2],F_h1.then F2⟩
  ·simp only[evs,↓reduceIte,Nat.reduceLT];refine aa (AI F2.wf (a.fr (F_h1.then F2)) (F2.get o_h1)) ?_;rintro _ h3 ⟨rfl,F3⟩;cases c3:okM x.marks
   ·simp only[evs,↓reduceIte];exact⟨by simp[okI,c3],(F_h1.then F2).then F3⟩
   ·simp only[evs,↓reduceIte];exact⟨by simp[okI,c0,c1,c2,c3],(F_h1.then F2).then F3⟩
 ·refine ag g102 rfl ?_;simp(disch:=omega) only[fn102,evs,↓reduceIte,Nat.reduceEqDiff,Nat.reduceAdd,ai,←e_h1,l0,show¬(x.key:Int)=0 by omega,l1,show(types:Int)≤x.type by omega];exact⟨by simp[okI,c1],F_h1⟩
theorem yP{h:Heap}(r:Nat):ao go 294 [.int .u8 (r:Int)] h fun u h'=>u=.bool (!cI r)∧h=h':=by
 by_cases c:(97:Int)≤r
 ·by_cases d:(r:Int)≤122
  ·refine ag g294 rfl ?_;simp only[fn294,evs,↓reduceIte,Nat.reduceEqDiff,c,d];simp[cI];omega
  ·by_cases e:(48:Int)≤r
   ·by_cases f:(r:Int)≤57
    ·omega
    ·refine ag g294 rfl ?_;simp only[fn294,evs,↓reduceIte,Nat.reduceEqDiff,c,d,e,f];simp[cI];omega
   ·omega
 ·by_cases e:(48:Int)≤r
  ·by_cases f:(r:Int)≤57
   ·refine ag g294 rfl ?_;simp only[fn294,evs,↓reduceIte,Nat.reduceEqDiff,c,e,f];simp[cI];omega
   ·refine ag g294 rfl ?_;simp only[fn294,evs,↓reduceIte,Nat.reduceEqDiff,c,e,f];simp[cI];omega
  ·refine ag g294 rfl ?_;simp only[fn294,evs,↓reduceIte,Nat.reduceEqDiff,c,e];simp[cI];omega
theorem bE{z:List UInt8}{i:Nat}(h:i<z.length)(k:IntKind):aP .ixstr [.str z,.int k (i:Int)]=some (.int .u8 ((z[i]).toNat:Nat)):=by
 show(z[i]?).map _=_;rw[List.getElem?_eq_getElem h];rfl
theorem nV{h:Heap}{z:List UInt8}:ao go 279 [.str z] h fun u h'=>u=.bool (okN z)∧h=h':=by
 by_cases c0:z.length<1
 ·refine ag g279 rfl ?_;simp only[fn279,evs,↓reduceIte,Nat.reduceEqDiff,aC,show(z.length:Int)<1 by omega];simp[okN];intro _;omega
 by_cases c1:16<z.length
 ·refine ag g279 rfl ?_;simp only[fn279,evs,↓reduceIte,Nat.reduceEqDiff,aC,show¬(z.length:Int)<1 by omega,show(16:Int)<z.length by omega];simp[okN];intro _ _;omega
 ·have e0:okN z= !dO cI z:=by simp[okN,show 0<z.length by omega,show z.length≤16 by omega]
  rw[e0];refine ag g279 rfl ?_;simp only[fn279,evs,↓reduceIte,Nat.reduceEqDiff,aC,show¬(z.length:Int)<1 by omega,show¬(16:Int)<z.length by omega];refine aE (fun k env hh=>h=hh∧∃(i:Nat),env.get 14=some (.int .i64 i)∧env.get 13=some (.int .i64 z.length)∧env.get 0=some (.str z)∧
   i≤z.length∧dO cI (z.drop i)=dO cI z∧k=z.length-i) z.length (by omega) ?_ ?_
  ·exact⟨rfl,0,(by simp[T.get_set]),(by simp[T.get_set]),(by simp[T.get_set]),by omega,rfl,rfl⟩
  ·rintro k env hh ⟨rfl,i,g14,g13,g0,hi,e,rfl⟩;by_cases hlt:i<z.length
   ·unfold dO at e;rw[List.drop_eq_getElem_cons hlt,List.any_cons]at e;simp only[evs,↓reduceIte,Nat.reduceEqDiff,g14,g13,g0,show(i:Int)<z.length by omega,bE hlt];refine aa (yP _) ?_;rintro _ _ ⟨rfl,rfl⟩;cases c:cI ((z[i]).toNat:Int)
    ·simp(disch:=omega) only[evs,↓reduceIte,Nat.reduceEqDiff,ai,g14];rw[c,Bool.false_or]at e;refine(aj _ _ _).2 ⟨z.length-(i+1),by omega,rfl,i+1,(by simp[T.get_set]),(by simp[T.get_set,g13]),(by simp[T.get_set,g0]),by omega,e,rfl⟩
     done
    ·simp only[evs,↓reduceIte];rw[c,Bool.true_or]at e;unfold dO;rw[←e];simp
   ·simp only[evs,↓reduceIte,g14,g13,show¬(i:Int)<z.length by omega];rw[List.drop_of_length_le (by omega)]at e;rw[←e];rfl
theorem HU:Cl 293 fH:=⟨by decide,fun r h=>by
 by_cases c:r<32
 ·refine ag g293 rfl ?_;simp only[fn293,evs,↓reduceIte,Nat.reduceEqDiff,c];simp[fH,c]
 ·refine ag g293 rfl ?_;simp only[fn293,evs,↓reduceIte,Nat.reduceEqDiff,c];simp[fH,c],fun r hr=>by simp[fH];omega⟩
theorem tL{h:Heap}{z:List UInt8}(w:WF h):ao go 278 [.str z] h fun u h'=>u=.bool (okT z)∧Fr [] h h':=by
 by_cases c:z.length≤64
 ·refine ag g278 rfl ?_;simp only[fn278,evs,↓reduceIte,Nat.reduceEqDiff,aC,show(z.length:Int)≤64 by omega];refine aa (?_:ao go 230 _ _ (fun u h'=>∃r:Int,u=.int .i64 r∧(decide (0≤r)=dO fH z)∧Fr [] h h')) ?_
  ·refine ag g230 rfl ?_;simp only[fn230,evs,↓reduceIte,Nat.reduceEqDiff,Nat.reduceAdd];refine aa (qu w HU (by omega)) ?_;rintro _ h1 ⟨r,rfl,e,F⟩;simp only[evs,↓reduceIte];exact⟨r,rfl,e,F⟩
  ·rintro _ h1 ⟨r,rfl,e,F⟩;simp only[evs,↓reduceIte];refine⟨?_,F⟩;have:decide (r<0)= !decide (0≤r):=by by_cases q:0≤r<;>simp[q]<;>omega
   simp[okT,c,←e];exact this
 ·refine ag g278 rfl ?_;simp only[fn278,evs,↓reduceIte,Nat.reduceEqDiff,aC,show¬(z.length:Int)≤64 by omega];exact⟨by simp[okT,c],Fr.refl w⟩
abbrev Str:=List UInt8
inductive NT where
 |nil
 |cons (kind:Nat) (tag key:Str) (attrs:List (Str×Str)) (text:Str) (va vc:V) (sub next:NT)
def eP(a:Str×Str):List V:=[.str a.1,.str a.2]
theorem dG(a:Str×Str):(eP a).length=2:=rfl
namespace NT
def len:NT→Nat
 |nil=>0
 |cons _ _ _ _ _ _ _ _ nx=>nx.len+1
def cells:NT→List V
 |nil=>[]
 |cons k tg ky _ tx va vc _ nx=>[.int .u8 (k:Int),.str tg,.str ky,va,.str tx,vc]++nx.cells
def keys:NT→List Str
 |nil=>[]
 |cons _ _ ky _ _ _ _ _ nx=>ky::nx.keys
theorem cells_len:∀t:NT,t.cells.length=t.len*6
 |nil=>rfl
 |cons _ _ _ _ _ _ _ _ nx=>by simp[cells,len,cells_len nx];omega
theorem keys_len:∀t:NT,t.keys.length=t.len
 |nil=>rfl
 |cons _ _ _ _ _ _ _ _ nx=>by simp[keys,len,keys_len nx]
def at':NT→Nat→NT
 |t,0=>t
 |nil,_+1=>nil
 |cons _ _ _ _ _ _ _ _ nx,i+1=>nx.at' i
end NT
def NH(h:Heap):NT→Prop
 |.nil=>True
 |.cons k _ _ at' _ va vc sub nx=>k<256∧Recs eP 2 h va at'∧at'.length≤4096∧Sl h 6 vc sub.len sub.cells∧sub.len≤4096∧NH h sub∧NH h nx
theorem NH.fr{h h':Heap}(f:Fr [] h h'):∀{t:NT},NH h t→NH h' t
 |.nil,_=>trivial
 |.cons _ _ _ _ _ _ _ _ _,⟨a,b,c,d,e,g,i⟩=>⟨a,b.fr f,c,d.fr f,e,NH.fr f g,NH.fr f i⟩
set_option maxRecDepth 4000
namespace NT
theorem split:∀(t:NT)(i:Nat),i<t.len→∃k tg ky at' tx va vc sub nx,t.at' i=.cons k tg ky at' tx va vc sub nx∧t.cells.drop (i*6)=[.int .u8 ((k:Nat):Int),.str tg,.str ky,va,.str tx,vc]++nx.cells∧t.at' (i+1)=nx∧t.keys.drop i=ky::nx.keys∧t.keys[i]? =some ky∧nx.len+(i+1)=t.len
 |.nil,_,h=>by cases h
 |.cons k tg ky at' tx va vc sub nx,0,_=>⟨k,tg,ky,at',tx,va,vc,sub,nx,rfl,rfl,by cases nx<;>rfl,rfl,rfl,rfl⟩
 |.cons _ _ _ _ _ _ _ _ nx,i+1,h=>by
  obtain⟨k,tg,ky,at',tx,va,vc,sub,n,e1,e2,e3,e4,e5,e6⟩:=split nx i (by simp[len]at h;omega);refine⟨k,tg,ky,at',tx,va,vc,sub,n,e1,?_,e3,e4,?_,by simp only[len];omega⟩
  ·rw[show(i+1) *6=6+i*6 by omega,←List.drop_drop];exact e2
  ·simpa[keys]using e5
theorem at_end:∀(t:NT)(i:Nat),t.len≤i→t.at' i=.nil
 |.nil,0,_=>rfl
 |.nil,_+1,_=>rfl
 |.cons _ _ _ _ _ _ _ _ nx,0,h=>by simp[len]at h
 |.cons _ _ _ _ _ _ _ _ nx,i+1,h=>at_end nx i (by simp[len]at h;omega)
end NT
theorem NH.at'{h:Heap}:∀{t:NT}(i:Nat),NH h t→NH h (t.at' i)
 |.nil,0,_=>trivial
 |.nil,_+1,_=>trivial
 |.cons _ _ _ _ _ _ _ _ _,0,a=>a
 |.cons _ _ _ _ _ _ _ _ _,i+1,⟨_,_,_,_,_,_,g⟩=>NH.at' i g
def At6(h:Heap)(b o:Nat)(x0 x1 x2 x3 x4 x5:V):Prop:=ab h b o=some x0∧ab h b (o+1)=some x1∧ab h b (o+2)=some x2∧ab h b (o+3)=some x3∧ab h b (o+4)=some x4∧ab h b (o+5)=some x5∧au h b o 6=some [x0,x1,x2,x3,x4,x5]
theorem _root_.Go.Ev.Sl.ix6{h:Heap}{v:V}{n:Nat}{cs:List V}(a:Sl h 6 v n cs){i:Nat}(hi:i<n){x0 x1 x2 x3 x4 x5:V}{r:List V}(e:cs.drop (i*6)=[x0,x1,x2,x3,x4,x5]++r):
 ∃b o,aP (.ixs 6) [v,.int .i64 (i:Int)]=some (.ptr b o)∧At6 h b o x0 x1 x2 x3 x4 x5:=by
 obtain⟨b,o,e1,e2,e3⟩:=Sl.ix a .i64 (i:Int) (by omega) (by omega);rw[Int.toNat_natCast]at e2 e3;rw[e]at e3;have g:∀j,cs[i*6+j]? =([x0,x1,x2,x3,x4,x5]++r)[j]? :=fun j=>by rw[←e,List.getElem?_drop]
 refine⟨b,o,e1,?_,?_,?_,?_,?_,?_,e3⟩
 ·have:=e2 0 (by omega);rw[g]at this;exact this
 ·have:=e2 1 (by omega);rw[g]at this;exact this
 ·have:=e2 2 (by omega);rw[g]at this;exact this
 ·have:=e2 3 (by omega);rw[g]at this;exact this
 ·have:=e2 4 (by omega);rw[g]at this;exact this
 ·have:=e2 5 (by omega);rw[g]at this;exact this
theorem _root_.Go.Ev.Own.at6{h:Heap}{b:Nat}{x0 x1 x2 x3 x4 x5:V}(o:Own h b [x0,x1,x2,x3,x4,x5]):At6 h b 0 x0 x1 x2 x3 x4 x5:=⟨o.ld1 0,o.ld1 1,o.ld1 2,o.ld1 3,o.ld1 4,o.ld1 5,by rw[o.ld];rfl⟩
theorem vv{h:Heap}{x0 x1 x3 x4 x5:V}{ky k0:Str}{bk:Nat}(w:WF h)(hk:∀h',Fr [] h h'→ab h' bk 2=some (.str k0))(ones:aq [x0,x1,.str ky,x3,x4,x5]=true):
 ao go 281 [.agg [x0,x1,.str ky,x3,x4,x5],.ptr bk 0] h fun u h'=>u=.bool (ky==k0)∧Fr [] h h':=by
 obtain⟨h1,e_h1⟩:∃h1,h1=halloc h [x0,x1,.str ky,x3,x4,x5]:=⟨_,rfl⟩;have F_h1:Fr [] h h1:=e_h1▸Fr.halloc w _;have o_h1:Own h1 h.next [x0,x1,.str ky,x3,x4,x5]:=e_h1▸Own.new w _;have l2:ab h1 h.next 2=some (.str ky):=o_h1.ld1 2;refine ag g281 rfl ?_;simp only[fn281,evs,↓reduceIte,Nat.reduceEqDiff,Nat.reduceAdd,←e_h1,l2,hk h1 F_h1,aI];exact F_h1
theorem yO{h:Heap}{u:V}{t:NT}{i bk:Nat}{k0:Str}(w:WF h)(a:Sl h 6 u i (t.cells.take (i*6)))(hi:i≤t.len)(hn:i≤4096)(ones:aq t.cells=true)(hk:∀h',Fr [] h h'→ab h' bk 2=some (.str k0)):
 ao go 280 [u,.func (.func 281) [] [.ptr bk 0]] h fun z h'=>z=.bool ((t.keys.take i).any (· ==k0))∧Fr [] h h':=by
 refine ag g280 rfl ?_;simp only[fn280,evs,↓reduceIte,Nat.reduceEqDiff,Nat.reduceAdd];refine aa (?_:ao go 295 _ _ (fun z h'=>∃r:Int,z=.int .i64 r∧(decide (0≤r)=(t.keys.take i).any (· ==k0))∧Fr [] h h')) ?_
 ·refine ag g295 rfl ?_;simp only[fn295,evs,↓reduceIte,Nat.reduceEqDiff,Nat.reduceAdd,Int.reduceNeg,a.len];refine aE (fun k env hh=>Fr [] h hh∧∃(j:Nat),env.get 8=some (.int .i64 j)∧env.get 7=some (.int .i64 i)∧env.get 0=some u∧env.get 1=some (.func (.func 281) [] [.ptr bk 0])∧
   j≤i∧((t.keys.take i).drop j).any (· ==k0)=(t.keys.take i).any (· ==k0)∧k=i-j) i (by omega) ?_ ?_
  ·exact⟨Fr.refl w,0,(by simp[T.get_set]),(by simp[T.get_set]),(by simp[T.get_set]),(by simp[T.get_set]),by omega,rfl,rfl⟩
  ·rintro k env hh ⟨F,j,g8,g7,g0,g1,hj,e,rfl⟩;by_cases hlt:j<i
   ·obtain⟨kd,tg,ky,at',tx,va,vc,sub,nx,e1,e2,e3,e4,e5,_⟩:=t.split j (by omega);have q:(t.cells.take (i*6)).drop (j*6)=[.int .u8 (kd:Int),.str tg,.str ky,va,.str tx,vc]++nx.cells.take (i*6-j*6-6):=by
     rw[List.drop_take,e2,show i*6-j*6=([.int .u8 (kd:Int),.str tg,.str ky,va,.str tx,vc]:List V).length+(i*6-j*6-6) by simp;omega,List.take_length_add_append];simp
    obtain⟨b,o,p1,p2⟩:=(a.fr F).ix6 hlt q;have on:aq [.int .u8 (kd:Int),.str tg,.str ky,va,.str tx,vc]=true:=by
     have:=dM (j*6) ones;rw[e2,aL]at this;exact(Bool.and_eq_true _ _▸this).1
    have ek:(t.keys.take i)[j]? =some ky:=by rw[List.getElem?_take,if_pos hlt];exact e5
    rw[aK ek,List.any_cons]at e;simp only[evs,↓reduceIte,Nat.reduceEqDiff,Nat.reduceLT,Int.reduceNeg,g8,g7,g0,g1,show(j:Int)<(i:Int) by omega,p1,p2.2.2.2.2.2.2];refine aa (vv F.wf (fun h' f=>hk h' (F.then f)) on) ?_;rintro _ h1 ⟨rfl,F1⟩;cases c:ky==k0
    ·simp(disch:=omega) only[evs,↓reduceIte,Nat.reduceEqDiff,Int.reduceNeg,ai,g8];rw[c]at e;refine(aj _ _ _).2 ⟨i-(j+1),by omega,F.then F1,j+1,(by simp[T.get_set]),(by simp[T.get_set,g7]),(by simp[T.get_set,g0]),(by simp[T.get_set,g1]),by omega,by simpa using e,rfl⟩
     done
    ·simp only[evs,↓reduceIte,Nat.reduceEqDiff,Int.reduceNeg];rw[c]at e;exact⟨j,rfl,by rw[←e];simp,F.then F1⟩
   ·simp only[evs,↓reduceIte,Int.reduceNeg,g8,g7,show¬(j:Int)<(i:Int) by omega];rw[List.drop_of_length_le (by simp;omega)]at e;exact⟨-1,rfl,by rw[←e];rfl,F⟩
 ·rintro _ h1 ⟨r,rfl,e,F⟩;simp only[evs,↓reduceIte];exact⟨by rw[e],F⟩
set_option maxRecDepth 4000
def leS(a b:Str):Bool:=Op.bytesLess a b||a==b
theorem jm(a b:Str):aP (.sb .leq) [.str a,.str b]=some (.bool (leS a b)):=rfl
def bS(p:Option Str)(n:Str):Bool:=match p with
 |none=>true
 |some q=> !leS n q
def db:Option Str→List (Str×Str)→Bool
 |_,[]=>true
 |p,(n,v)::r=>(okN n&&(okT v&&bS p n))&&db (some n) r
def eS:List Str→List Str→Bool
 |_,[]=>true
 |pr,k::r=>(k==[]|| !(pr.any (· ==k)))&&eS (pr++[k]) r
theorem l9(pr:List Str)(k:Str)(r:List Str):eS pr (k::r)=((k==[]|| !(pr.any (· ==k)))&&eS (pr++[k]) r):=rfl
theorem kR(p:Option Str)(a:Str×Str)(r:List (Str×Str)):db p (a::r)=((okN a.1&&(okT a.2&&bS p a.1))&&db (some a.1) r):=rfl
def fD(k:Nat)(tg ky:Str)(at':List (Str×Str))(tx:Str)(sub:NT):Bool:=
 if k=2 then okT tx&&(tg==[]&&(ky==[]&&(decide (at'.length=0)&&decide (sub.len=0))))
 else decide (k=1)&&(okN tg&&((ky==[]||okN ky)&&(tx==[]&&(decide (at'.length≤8)&&(decide (sub.len≤16)&&(db none at'&&eS [] sub.keys))))))
def hP(at':List (Str×Str))(i:Nat):Option Str:=if i=0 then none else(at'[i-1]?).map (·.1)
theorem nQ{at':List (Str×Str)}{i:Nat}{a:Str×Str}(h:at'[i]? =some a):hP at' (i+1)=some a.1:=by simp[hP,h]
theorem FG{h:Heap}{b o:Nat}{x0 x1 x2 x3 x4 vc:V}{sub:NT}{env:T V}{R:V→Heap→Prop}(w:WF h)(hA:∀h',Fr [] h h'→At6 h' b o x0 x1 x2 x3 x4 vc)
 (rc:Sl h 6 vc sub.len sub.cells) (nc:sub.len≤4096) (ones:aq sub.cells=true) (g0:env.get 0=some (.ptr b o))
 (k:∀h',Fr [] h h'→R (.bool (eS [] sub.keys)) h'):W go alC env h (iT [.t 2] R):=by
 have q5:=(hA h (Fr.refl w)).2.2.2.2.2.1;simp only[evs,↓reduceIte,alC,g0,q5,rc.len];refine aE (fun n env hh=>Fr [] h hh∧∃(i:Nat),env.get 142=some (.int .i64 i)∧env.get 141=some (.int .i64 sub.len)∧env.get 140=some vc∧env.get 0=some (.ptr b o)∧
  i≤sub.len∧eS (sub.keys.take i) (sub.keys.drop i)=eS [] sub.keys∧n=sub.len-i) sub.len (by omega) ?_ ?_
 ·exact⟨Fr.refl w,0,(by simp[T.get_set]),(by simp[T.get_set]),(by simp[T.get_set]),(by simp[T.get_set,g0]),by omega,rfl,rfl⟩
 ·rintro n env hh ⟨F,i,g142,g141,g140,g0,hi,e,rfl⟩;by_cases hlt:i<sub.len
  ·obtain⟨kd,tg,ky,at',tx,va,vc',sb,nx,e1,e2,e3,e4,e5,_⟩:=sub.split i hlt;obtain⟨b',o',p1,p2⟩:=(rc.fr F).ix6 hlt e2;have on:aq [.int .u8 (kd:Int),.str tg,.str ky,va,.str tx,vc']=true:=by
    have:=dM (i*6) ones;rw[e2,aL]at this;exact(Bool.and_eq_true _ _▸this).1
   have hlt':(i:Int)<sub.len:=by omega
   rw[e4]at e;rw[l9]at e;have ek:(sub.keys.take i)++[ky]=sub.keys.take (i+1):=by
    rw[List.take_add_one,e5];rfl
   have ed:nx.keys=sub.keys.drop (i+1):=by
    rw[←List.drop_drop (i:=1),e4];rfl
   rw[ek,ed]at e;obtain⟨h1,e_h1⟩:∃h1,h1=halloc hh [.int .u8 0,.str [],.str [],.nils,.str [],.nils]:=⟨_,rfl⟩;have F_h1:Fr [] hh h1:=e_h1▸Fr.halloc F.wf _;have o_h1:Own h1 hh.next [.int .u8 0,.str [],.str [],.nils,.str [],.nils]:=e_h1▸Own.new F.wf _;simp only[evs,↓reduceIte,Nat.reduceEqDiff,g142,g141,g140,hlt',p1,p2.2.2.2.2.2.2,←e_h1];refine ah (c':=[.int .u8 (kd:Int),.str tg,.str ky,va,.str tx,vc']) F_h1.wf o_h1 rfl on rfl ?_;rintro h2 o2 F2 n2;have F02:Fr [] hh h2:=F_h1.fresh F2 F.wf (Nat.le_refl _);have q2:ab h2 hh.next 2=some (.str ky):=o2.ld1 2;have q5:=(hA h2 (F.then F02)).2.2.2.2.2.1;cases c:ky==[]
   ·obtain⟨u,s1,s2⟩:=(rc.fr (F.then F02)).upto (by omega) (Sl.ne (rc.fr (F.then F02)) (by omega)) .i64 (i:Int) (by omega) (by omega);rw[Int.toNat_natCast]at s2;simp only[evs,↓reduceIte,Nat.reduceEqDiff,g0,q2,aR,c,q5,s1];refine aa (yO F02.wf s2 (by omega) (by omega) ones (fun h' f=>(f.get o2).ld1 2)) ?_;rintro _ h3 ⟨rfl,F3⟩;cases c2:(sub.keys.take i).any (· ==ky)
    ·simp(disch:=omega) only[evs,↓reduceIte,Nat.reduceEqDiff,ai,g142];rw[c,c2]at e;refine(aj _ _ _).2 ⟨sub.len-(i+1),by omega,(F.then F02).then F3,i+1,(by simp[T.get_set]),(by simp[T.get_set,g141]),(by simp[T.get_set,g140]),(by simp[T.get_set,g0]),by omega,by simpa using e,rfl⟩
     done
    ·simp only[evs,↓reduceIte];have:=k _ ((F.then F02).then F3);rw[←e,c,c2]at this;simpa using this
   ·simp(disch:=omega) only[evs,↓reduceIte,Nat.reduceEqDiff,ai,g142,q2,aR,c];rw[c]at e;refine(aj _ _ _).2 ⟨sub.len-(i+1),by omega,F.then F02,i+1,(by simp[T.get_set]),(by simp[T.get_set,g141]),(by simp[T.get_set,g140]),(by simp[T.get_set,g0]),by omega,by simpa using e,rfl⟩
    done
  ·simp only[evs,↓reduceIte,g142,g141,show¬(i:Int)<sub.len by omega];rw[List.drop_of_length_le (by rw[NT.keys_len];omega)]at e;have:=k _ F;rw[←e]at this;exact this
theorem BM{h:Heap}{b o:Nat}{x0 x1 x2 va x4 vc:V}{at':List (Str×Str)}{sub:NT}{env:T V}{R:V→Heap→Prop}(w:WF h)(hA:∀h',Fr [] h h'→At6 h' b o x0 x1 x2 va x4 vc)
 (ra:Recs eP 2 h va at') (na:at'.length≤4096) (rc:Sl h 6 vc sub.len sub.cells) (nc:sub.len≤4096) (ones:aq sub.cells=true) (g0:env.get 0=some (.ptr b o))
 (k:∀h',Fr [] h h'→R (.bool (db none at'&&eS [] sub.keys)) h'):W go alA env h (iT [.t 2] R):=by
 have q3:=(hA h (Fr.refl w)).2.2.2.1;simp only[evs,↓reduceIte,alA,g0,q3,ra.len];refine aE (fun n env hh=>Fr [] h hh∧∃(i:Nat),env.get 103=some (.int .i64 i)∧env.get 102=some (.int .i64 at'.length)∧env.get 101=some va∧env.get 0=some (.ptr b o)∧
  i≤at'.length∧db (hP at' i) (at'.drop i)=db none at'∧n=at'.length-i) at'.length (by omega) ?_ ?_
 ·exact⟨Fr.refl w,0,(by simp[T.get_set]),(by simp[T.get_set]),(by simp[T.get_set]),(by simp[T.get_set,g0]),by omega,rfl,rfl⟩
 ·rintro n env hh ⟨F,i,g103,g102,g101,g0,hi,e,rfl⟩;by_cases hlt:i<at'.length
  ·have hlt':(i:Int)<at'.length:=by omega
   obtain⟨b',o',a,p1,p2,p3,p4⟩:=(ra.fr F).ix dG .i64 (i:Int) (by omega) hlt';rw[Int.toNat_natCast]at p4;rw[aK p4,kR]at e;have en:=nQ p4;obtain⟨h1,e_h1⟩:∃h1,h1=halloc hh [.str [],.str []]:=⟨_,rfl⟩;have F_h1:Fr [] hh h1:=e_h1▸Fr.halloc F.wf _;have o_h1:Own h1 hh.next [.str [],.str []]:=e_h1▸Own.new F.wf _;simp only[evs,↓reduceIte,Nat.reduceEqDiff,g103,g102,g101,hlt',p1,p3,←e_h1];refine ah (c':=[.str a.1,.str a.2]) F_h1.wf o_h1 rfl rfl rfl ?_;rintro h2 o2 F2 n2;have F02:Fr [] hh h2:=F_h1.fresh F2 F.wf (Nat.le_refl _);have q0:ab h2 hh.next 0=some (.str a.1):=o2.ld1 0;have q1:ab h2 hh.next 1=some (.str a.2):=o2.ld1 1;simp only[evs,↓reduceIte,Nat.reduceEqDiff,eff,q0];refine aa nV ?_;rintro _ _ ⟨rfl,rfl⟩;cases c1:okN a.1
   ·simp only[evs,↓reduceIte,Nat.reduceAdd,DF,eff,Nat.reduceSub,q0];have:=k _ (F.then F02);rw[←e,c1]at this;simpa using this
   simp only[evs,↓reduceIte,Nat.reduceEqDiff,eff,q1];refine aa (tL F02.wf) ?_;rintro _ h3 ⟨rfl,F3⟩;have F03:=(F.then F02).then F3;have q0':ab h3 hh.next 0=some (.str a.1):=(F3.get o2).ld1 0;cases c2:okT a.2
   ·simp only[evs,↓reduceIte,Nat.reduceAdd,DF,eff,Nat.reduceSub,q0,q1];have:=k _ F03;rw[←e,c1,c2]at this;simpa using this
   have fin:bS (hP at' i) a.1=true→db (hP at' (i+1)) (at'.drop (i+1))=db none at':=fun c=>by
    rw[←e,c1,c2,c,en];rfl
   by_cases c3:i=0
   ·simp(disch:=omega) only[evs,↓reduceIte,Nat.reduceEqDiff,Nat.reduceAdd,DF,eff,Nat.reduceSub,ai,g103,q0,q1,show¬(0:Int)<(i:Int) by omega];refine(aj _ _ _).2 ⟨at'.length-(i+1),by omega,F03,i+1,(by simp[T.get_set]),(by simp[T.get_set,g102]),(by simp[T.get_set,g101]),(by simp[T.get_set,g0]),by omega,fin (by rw[c3];rfl),rfl⟩
    done
   ·obtain⟨b2,o2',a2,r1,r2,r3,r4⟩:=(ra.fr F03).ix dG .i64 ((i:Int)-1) (by omega) (by omega);have r4':at'[i-1]? =some a2:=by rw[←r4];congr 1;omega
    have r2':ab h3 b2 o2'=some (.str a2.1):=r2 0 (by omega);have q3:=(hA h3 F03).2.2.2.1;have pe:hP at' i=some a2.1:=by simp[hP,c3,r4']
    cases c4:leS a.1 a2.1
    ·simp(disch:=omega) only[evs,↓reduceIte,Nat.reduceEqDiff,Nat.reduceAdd,DF,eff,Nat.reduceSub,ai,c4,g103,g0,q0,q1,q0',q3,r1,r2',jm,show(0:Int)<(i:Int) by omega];refine(aj _ _ _).2 ⟨at'.length-(i+1),by omega,F03,i+1,(by simp[T.get_set]),(by simp[T.get_set,g102]),(by simp[T.get_set,g101]),(by simp[T.get_set,g0]),by omega,fin (by rw[pe];simp[bS,c4]),rfl⟩
     done
    ·simp(disch:=omega) only[evs,↓reduceIte,Nat.reduceEqDiff,Nat.reduceAdd,DF,eff,Nat.reduceSub,ai,c4,g0,q0,q1,q0',q3,r1,r2',jm,show(0:Int)<(i:Int) by omega];have:=k _ F03;rw[←e,pe,c1,c2]at this;simpa[bS,c4]using this
  ·simp only[evs,↓reduceIte,g103,g102,show¬(i:Int)<at'.length by omega];rw[List.drop_of_length_le (by omega)]at e;refine FG F.wf (fun h' f=>hA h' (F.then f)) (rc.fr F) nc ones (by simp[T.get_set,g0]) fun h' f=>?_;have:=k h' (F.then f);rw[←e]at this;simpa[db]using this
theorem BK{h:Heap}{b o k:Nat}{tg ky tx:Str}{at':List (Str×Str)}{va vc:V}{sub:NT}(w:WF h)(hA:∀h',Fr [] h h'→At6 h' b o (.int .u8 (k:Int)) (.str tg) (.str ky) va (.str tx) vc)
 (ra:Recs eP 2 h va at') (na:at'.length≤4096) (rc:Sl h 6 vc sub.len sub.cells) (nc:sub.len≤4096) (ones:aq sub.cells=true):
 ao go 253 [.ptr b o] h fun u h'=>u=.bool (fD k tg ky at' tx sub)∧Fr [] h h':=by
 have q0:ab h b o=some (.int .u8 (k:Int)):=(hA h (Fr.refl w)).1;by_cases c0:k=2
 ·have q4:ab h b (o+4)=some (.str tx):=(hA h (Fr.refl w)).2.2.2.2.1;unfold fD;rw[if_pos c0];refine ag g253x rfl ?_;simp only[evs,↓reduceIte,Nat.reduceEqDiff,fn253x,q0,show(k:Int)=2 by omega,q4];refine aa (tL w) ?_;rintro _ h1 ⟨rfl,F1⟩;obtain⟨_,q1,q2,q3,_,q5,_⟩:=hA h1 F1;have l1:=(ra.fr F1).len;have l2:=(rc.fr F1).len;cases c1:okT tx
  ·simp only[evs,↓reduceIte];exact⟨rfl,F1⟩
  cases c2:tg==[]
  ·simp only[evs,↓reduceIte,Nat.reduceEqDiff,q1,aI,c2];exact⟨rfl,F1⟩
  cases c3:ky==[]
  ·simp only[evs,↓reduceIte,Nat.reduceEqDiff,q1,aI,c2,q2,c3];exact⟨rfl,F1⟩
  by_cases c4:at'.length=0
  ·by_cases c5:sub.len=0
   ·simp only[evs,↓reduceIte,Nat.reduceEqDiff,q1,aI,c2,q2,c3,q3,l1,show((at'.length:Nat):Int)=0 by omega,q5,l2,show((sub.len:Nat):Int)=0 by omega];exact⟨by simp[c4,c5],F1⟩
   ·simp only[evs,↓reduceIte,Nat.reduceEqDiff,q1,aI,c2,q2,c3,q3,l1,show((at'.length:Nat):Int)=0 by omega,q5,l2,show¬((sub.len:Nat):Int)=0 by omega];exact⟨by simp[c5],F1⟩
  ·simp only[evs,↓reduceIte,Nat.reduceEqDiff,q1,aI,c2,q2,c3,q3,l1,show¬((at'.length:Nat):Int)=0 by omega];exact⟨by simp[c4],F1⟩
 ·unfold fD;rw[if_neg c0];by_cases c1:k=1
  ·obtain⟨_,q1,q2,q3,q4,q5,_⟩:=hA h (Fr.refl w);have l1:=ra.len;have l2:=rc.len;refine ag g253x rfl ?_;simp only[evs,↓reduceIte,Nat.reduceEqDiff,fn253x,q0,show(k:Int)=1 by omega,q1];refine aa nV ?_;rintro _ _ ⟨rfl,rfl⟩;cases c2:okN tg
   ·simp only[evs,↓reduceIte];exact⟨by simp,Fr.refl w⟩
   cases ck:ky==[]
   ·simp only[evs,↓reduceIte,Nat.reduceEqDiff,q2,aR,ck];refine aa nV ?_;rintro _ _ ⟨rfl,rfl⟩;cases cn:okN ky
    ·simp only[evs,↓reduceIte];exact⟨by simp,Fr.refl w⟩
    cases ct:tx==[]
    ·simp only[evs,↓reduceIte,Nat.reduceEqDiff,aR,q4,ct];exact⟨by simp,Fr.refl w⟩
    by_cases ca:at'.length≤8
    ·by_cases cs:sub.len≤16
     ·simp only[evs,↓reduceIte,Nat.reduceEqDiff,aR,q4,ct,q3,l1,show¬(8:Int)<(at'.length:Nat) by omega,q5,l2,show¬(16:Int)<(sub.len:Nat) by omega];refine BM w hA ra na rc nc ones (by simp[T.get_set]) fun h' f=>⟨by simp[c1,ca,cs],f⟩
     ·simp only[evs,↓reduceIte,Nat.reduceEqDiff,aR,q4,ct,q3,l1,show¬(8:Int)<(at'.length:Nat) by omega,q5,l2,show(16:Int)<(sub.len:Nat) by omega];exact⟨by simp[cs],Fr.refl w⟩
    ·simp only[evs,↓reduceIte,Nat.reduceEqDiff,aR,q4,ct,q3,l1,show(8:Int)<(at'.length:Nat) by omega];exact⟨by simp[ca],Fr.refl w⟩
   cases ct:tx==[]
   ·simp only[evs,↓reduceIte,Nat.reduceEqDiff,q2,aR,ck,q4,ct];exact⟨by simp,Fr.refl w⟩
   by_cases ca:at'.length≤8
   ·by_cases cs:sub.len≤16
    ·simp only[evs,↓reduceIte,Nat.reduceEqDiff,q2,aR,ck,q4,ct,q3,l1,show¬(8:Int)<(at'.length:Nat) by omega,q5,l2,show¬(16:Int)<(sub.len:Nat) by omega];refine BM w hA ra na rc nc ones (by simp[T.get_set]) fun h' f=>⟨by simp[c1,ca,cs],f⟩
    ·simp only[evs,↓reduceIte,Nat.reduceEqDiff,q2,aR,ck,q4,ct,q3,l1,show¬(8:Int)<(at'.length:Nat) by omega,q5,l2,show(16:Int)<(sub.len:Nat) by omega];exact⟨by simp[cs],Fr.refl w⟩
   ·simp only[evs,↓reduceIte,Nat.reduceEqDiff,q2,aR,ck,q4,ct,q3,l1,show(8:Int)<(at'.length:Nat) by omega];exact⟨by simp[ca],Fr.refl w⟩
  ·refine ag g253x rfl ?_;simp only[evs,↓reduceIte,Nat.reduceEqDiff,fn253x,q0,show¬(k:Int)=2 by omega,show¬(k:Int)=1 by omega];exact⟨by simp[c1],Fr.refl w⟩
theorem NH.ones{h:Heap}:∀{t:NT},NH h t→aq t.cells=true
 |.nil,_=>rfl
 |.cons k tg ky _ tx va vc _ nx,⟨_,b,_,d,_,_,g⟩=>by
  show aq ([.int .u8 (k:Int),.str tg,.str ky,va,.str tx,vc]++nx.cells)=true;rw[aL,NH.ones g];simp only[aD,aJ,Sl.one b,Sl.one d];rfl
namespace NT
def node(k:Nat)(tg ky:Str)(at':List (Str×Str))(tx:Str)(sub:NT)(w:Nat→Nat→Nat×Bool)(l c:Nat):Nat×Bool:=
 if 6<l∨64<c+1∨fD k tg ky at' tx sub=false then(c+1,false)else w (l+1) (c+1)
def walk:NT→Nat→Nat→Nat×Bool
 |nil,_,c=>(c,true)
 |cons k tg ky at' tx _ _ sub nx,l,c=>let r:=node k tg ky at' tx sub sub.walk l c;if r.2=true then nx.walk l r.1 else r
theorem gE:∀(t:NT)(l c:Nat),c≤64→(t.walk l c).1≤65∧((t.walk l c).2=true→(t.walk l c).1≤64)
 |nil,_,c,h=>⟨by simp[walk];omega,fun _=>h⟩
 |cons k tg ky at' tx _ _ sub nx,l,c,h=>by
  have q:(node k tg ky at' tx sub sub.walk l c).1≤65∧((node k tg ky at' tx sub sub.walk l c).2=true→(node k tg ky at' tx sub sub.walk l c).1≤64):=by
   unfold node;split
   ·exact⟨by simp;omega,fun e=>by cases e⟩
   ·rename_i x;exact gE sub (l+1) (c+1) (by omega)
  simp only[walk];split
  ·rename_i x;exact gE nx l _ (q.2 x)
  ·exact q
theorem node_le(k:Nat)(tg ky:Str)(at':List (Str×Str))(tx:Str)(sub:NT)(l c:Nat)(h:c≤64):(node k tg ky at' tx sub sub.walk l c).1≤65∧((node k tg ky at' tx sub sub.walk l c).2=true→(node k tg ky at' tx sub sub.walk l c).1≤64):=by
 unfold node;split
 ·exact⟨by simp;omega,fun e=>by cases e⟩
 ·exact gE sub (l+1) (c+1) (by omega)
end NT
structure Ms(h0 h:Heap)(bc bd bw:Nat)(c d:Nat):Prop where
 f:Fr [] h0 h
 oc:Own h bc [.int .i64 (c:Int)]
 od:Own h bd [.int .i64 (d:Int)]
 ow:Own h bw [.func (.func 252) [] [.ptr bc 0,.ptr bd 0,.ptr bw 0]]
 dl:d≤7
structure MsB(h0:Heap)(bc bd bw:Nat):Prop where
 w:WF h0
 c:h0.next≤bc
 d:h0.next≤bd
 b:h0.next≤bw
 cd:bc≠bd
 cw:bc≠bw
 dw:bd≠bw
theorem Ms.fr{h0 h h':Heap}{bc bd bw c d:Nat}(m:Ms h0 h bc bd bw c d)(f:Fr [] h h'):Ms h0 h' bc bd bw c d:=⟨m.f.then f,f.get m.oc,f.get m.od,f.get m.ow,m.dl⟩
def CG(h0:Heap)(k:Nat)(tg ky:Str)(at':List (Str×Str))(tx:Str)(va vc:V)(sub:NT):Prop:=
 ∀(h:Heap)(b o bc bd bw l c d:Nat),MsB h0 bc bd bw→Ms h0 h bc bd bw c d→(∀h',Fr [] h0 h'→At6 h' b o (.int .u8 (k:Int)) (.str tg) (.str ky) va (.str tx) vc)→l≤7→c≤64→
  ao go 252 [.ptr b o,.int .i64 (l:Int),.ptr bc 0,.ptr bd 0,.ptr bw 0] h fun u h'=>u=.bool (NT.node k tg ky at' tx sub sub.walk l c).2∧∃d',Ms h0 h' bc bd bw (NT.node k tg ky at' tx sub sub.walk l c).1 d'
def AllE(h0:Heap):NT→Prop
 |.nil=>True
 |.cons k tg ky at' tx va vc sub nx=>CG h0 k tg ky at' tx va vc sub∧AllE h0 nx
theorem AllE.at'{h:Heap}:∀{t:NT}(i:Nat),AllE h t→AllE h (t.at' i)
 |.nil,0,_=>trivial
 |.nil,_+1,_=>trivial
 |.cons _ _ _ _ _ _ _ _ _,0,a=>a
 |.cons _ _ _ _ _ _ _ _ _,i+1,⟨_,g⟩=>AllE.at' i g
theorem DA{h0:Heap}{k:Nat}{tg ky:Str}{at':List (Str×Str)}{tx:Str}{va vc:V}{sub:NT}
 (ra:Recs eP 2 h0 va at') (na:at'.length≤4096) (rc:Sl h0 6 vc sub.len sub.cells) (nc:sub.len≤4096) (ns:NH h0 sub) (A:AllE h0 sub):CG h0 k tg ky at' tx va vc sub:=by
 intro h b o bc bd bw l c d B M hA hl hc;have lc:ab h bc 0=some (.int .i64 (c:Int)):=M.oc.ld1 0;refine ag g252 rfl ?_;simp(disch:=omega) only[fn252,evs,↓reduceIte,Nat.reduceEqDiff,Nat.reduceAdd,ai,lc];refine ah (c':=[.int .i64 ((c+1:Nat):Int)]) M.f.wf M.oc rfl rfl rfl ?_;rintro h1 o1 F1 n1;have od1:Own h1 bd [.int .i64 (d:Int)]:=F1.own _ _ (by simpa using B.cd.symm) M.od;have ld:ab h1 bd 0=some (.int .i64 (d:Int)):=od1.ld1 0;simp only[evs,↓reduceIte,Nat.reduceEqDiff,ld];have dl:=M.dl;refine ah (c':=[.int .i64 ((max d l:Nat):Int)]) F1.wf od1 rfl rfl (by rw[show((max d l:Nat):Int)=max (d:Int) (l:Int) by omega];rfl) ?_;rintro h2 o2 F2 n2;have M2:Ms h0 h2 bc bd bw (c+1) (max d l):=by
  refine⟨?_,F2.own _ _ (by simpa using B.cd) o1,o2,F2.own _ _ (by simpa using B.dw.symm) (F1.own _ _ (by simpa using B.cw.symm) M.ow),by omega⟩;exact Fr.trans (Fr.trans M.f F1 B.w (fun x hx=>.inl hx) (fun x hx=>.inr (by simp at hx;subst hx;exact B.c))) F2 B.w (fun x hx=>.inl hx) (fun x hx=>.inr (by simp at hx;subst hx;exact B.d))
 have lc2:ab h2 bc 0=some (.int .i64 ((c+1:Nat):Int)):=M2.oc.ld1 0;by_cases c1:6<l
 ·have e:NT.node k tg ky at' tx sub sub.walk l c=(c+1,false):=if_pos (.inl c1);simp only[evs,↓reduceIte,Nat.reduceEqDiff,show(6:Int)<(l:Int) by omega];rw[e];exact⟨rfl,_,M2⟩
 by_cases c2:64<c+1
 ·have e:NT.node k tg ky at' tx sub sub.walk l c=(c+1,false):=if_pos (.inr (.inl c2));simp only[evs,↓reduceIte,Nat.reduceEqDiff,show¬(6:Int)<(l:Int) by omega,lc2,show(64:Int)<((c+1:Nat):Int) by omega];rw[e];exact⟨rfl,_,M2⟩
 simp only[evs,↓reduceIte,Nat.reduceEqDiff,show¬(6:Int)<(l:Int) by omega,lc2,show¬(64:Int)<((c+1:Nat):Int) by omega];refine aa (BK M2.f.wf (fun h' f=>hA h' (M2.f.then f)) (ra.fr M2.f) na (rc.fr M2.f) nc ns.ones) ?_;rintro _ h3 ⟨rfl,F3⟩;have M3:=M2.fr F3;cases c3:fD k tg ky at' tx sub
 ·have e:NT.node k tg ky at' tx sub sub.walk l c=(c+1,false):=if_pos (.inr (.inr c3));simp only[evs,↓reduceIte];rw[e];exact⟨rfl,_,M3⟩
 have e:NT.node k tg ky at' tx sub sub.walk l c=sub.walk (l+1) (c+1):=if_neg (by simp[c3];omega);rw[e];have q5:=(hA h3 M3.f).2.2.2.2.2.1;simp only[evs,↓reduceIte,Nat.reduceEqDiff,q5,(rc.fr M3.f).len];refine aE (fun n env hh=>∃(i c' d':Nat),Ms h0 hh bc bd bw c' d'∧env.get 30=some (.int .i64 i)∧env.get 29=some (.int .i64 sub.len)∧env.get 0=some (.ptr b o)∧env.get 1=some (.int .i64 l)∧env.get 4=some (.ptr bw 0)∧
  i≤sub.len∧c'≤64∧(sub.at' i).walk (l+1) c'=sub.walk (l+1) (c+1)∧n=sub.len-i) sub.len (by omega) ?_ ?_
 ·exact⟨0,c+1,max d l,M3,(by simp[T.get_set]),(by simp[T.get_set]),(by simp[T.get_set]),(by simp[T.get_set]),(by simp[T.get_set]),by omega,by omega,by cases sub<;>rfl,rfl⟩
 ·rintro n env hh ⟨i,c',d',M',g30,g29,g0,g1,g4,hi,hc',e',rfl⟩;by_cases hlt:i<sub.len
  ·obtain⟨kd,tg',ky',at2,tx',va',vc',sb,nx,e1,e2,e3,e4,e5,e6⟩:=sub.split i hlt;have hlt':(i:Int)<sub.len:=by omega
   have a:=A.at' i;rw[e1]at a e';obtain⟨b',o',p1,_⟩:=(rc.fr M'.f).ix6 hlt e2;have hA':∀h',Fr [] h0 h'→At6 h' b' o' (.int .u8 (kd:Int)) (.str tg') (.str ky') va' (.str tx') vc':=fun h' f=>by
    obtain⟨b2,o2,p1',p2'⟩:=(rc.fr f).ix6 hlt e2;rw[p1]at p1';cases p1';exact p2'
   have q5:=(hA hh M'.f).2.2.2.2.2.1;have lw:ab hh bw 0=some (.func (.func 252) [] [.ptr bc 0,.ptr bd 0,.ptr bw 0]):=M'.ow.ld1 0;simp(disch:=omega) only[evs,↓reduceIte,Nat.reduceEqDiff,Nat.reduceLT,eff,ai,g30,g29,g0,g1,g4,hlt',lw,q5,p1];refine aa (a.1 hh b' o' bc bd bw (l+1) c' d' B M' hA' (by omega) hc') ?_;rintro _ h4 ⟨rfl,d4,M4⟩;simp only[NT.walk]at e';have nl:=NT.node_le kd tg' ky' at2 tx' sb (l+1) c' hc';cases c4:(NT.node kd tg' ky' at2 tx' sb sb.walk (l+1) c').2
   ·rw[c4]at e';simp only[evs,↓reduceIte,Nat.reduceEqDiff,Nat.reduceAdd,DF,eff,Nat.reduceSub,g4,lw,q5];rw[←e'];exact⟨by simp[c4],d4,by simpa using M4⟩
   ·rw[c4]at e';simp(disch:=omega) only[evs,↓reduceIte,Nat.reduceEqDiff,Nat.reduceAdd,DF,eff,Nat.reduceSub,ai,g30,g4,lw,q5];refine(aj _ _ _).2 ⟨sub.len-(i+1),by omega,i+1,_,d4,M4,(by simp[T.get_set]),(by simp[T.get_set,g29]),(by simp[T.get_set,g0]),(by simp[T.get_set,g1]),(by simp[T.get_set,g4]),by omega,nl.2 c4,?_,rfl⟩;rw[e3];simpa using e'
  ·simp only[evs,↓reduceIte,g30,g29,show¬(i:Int)<sub.len by omega];rw[NT.at_end _ _ (by omega)]at e';rw[←e'];exact⟨rfl,d',M'⟩
end Go.Ev.Lay
