/- An evaluator of the program, and contracts over it: LmRw to LmRw. -/
import Derived.Test.YtiiggfpadljcbaaGreatDoorRows
import Derived.ProofKit
import Derived.LaidMore
import Derived.OpenShut
import Derived.Stop.Joined
import Derived.Deep.Slices
import Derived.Deep.Strs
import Derived.Carry
import Derived.Test.YtiiggfpadljcbaaGreatDoorP16
set_option linter.unusedSimpArgs false
set_option linter.unusedVariables false
set_option linter.constructorNameAsVariable false
set_option linter.unnecessarySimpa false
namespace Go.Proofs.YtiiggfpadljcbaaGreatDoor
open Go.ChangeShapes Go.WideShapes Go.ChangeAt Go.WideMaps Go.WideElems Go.RowKit Go.Deep
open Go.Ev.Lay (Tab jn rF mY cX gq4 gb8 gu2)
theorem own:ownKnob Tryz.prog.godebug=none:=by kernel_rfl
theorem uL:laidOutB Tryz.prog=true:=by kernel_rfl
theorem J9:Tryz.prog.globalNamed "math/bits.deBruijn64tab" =some 0:=by kernel_rfl
theorem KR:(Tryz.prog.globals[0]?).map (·.type)=some 263:=by kernel_rfl
theorem c5:Tryz.prog.cellsOf 5=1:=by kernel_rfl
theorem La:Tryz.prog.cellsOf 263=64:=by kernel_rfl
abbrev wx:List (String×DataW Unit):=[("math/bits.deBruijn64tab",Rows.laid_math_bits_deBruijn64tab)]
theorem C8{H:Type}:(Rows.laid_math_bits_deBruijn64tab:DataW H)=.agg (jn.map fun(n:Nat)=>.lit (.int .u8 (n:Int))):=rfl
theorem pN{α:Type}{l:List α}{i:Nat}{v:α}(h:(l.drop i).take 1=[v]):l[i]? =some v:=by
  have:((l.drop i).take 1)[0]? =some v:=by rw[h];rfl
  rw[List.getElem?_take,if_pos (by omega),List.getElem?_drop]at this;simpa using this
theorem FK{W:World}(h:laidMetH Tryz.prog wx W):Tab W:=by
  rw[MakeChecks.laidMetH_plain _ _ _ (by kernel_rfl)]at h;obtain⟨ps,⟨g0,t0,cs0,f0,p0,q0,hg0,ht0,hv0,hd0,hrest,hps⟩,_,hcl⟩:=h;obtain rfl:=Option.some.inj (J9.symm.trans hg0);obtain rfl:=Option.some.inj (KR.symm.trans ht0);obtain⟨xs,m1,rfl,hx,hlen,hn,hel⟩:=DataW.trod_array Tryz.underlying263 hd0;rw[La]at hlen;rw[c5]at hel;have hsz:cs0.size=64:=by simpa using hlen
  obtain⟨⟨C,ty,hC⟩,_⟩:=hcl 0 0 (by rw[hps,hsz];simp[MemPlace.row]);have eC:C=cs0:=by
    unfold World.var? at hv0;rw[J9]at hv0;simp only[Option.bind_some,hC]at hv0;exact Option.some.inj hv0
  subst eC;refine⟨C,ty,hC,hsz,fun i n hi=>?_⟩;have hi64:i<64:=(List.getElem?_eq_some_iff.1 hi).1;have hxi:xs[i]? =some (xs[i]'(by omega)):=List.getElem?_eq_getElem _;have he:=hel i hi64;rw[hxi]at he;obtain⟨k,e1,e2,_⟩:=DataW.trod_int Tryz.underlying5 he;simp only[Prod.mk.injEq]at hx;have hx1:=hx.1;rw[C8]at hx1;have hx2:(jn.map fun(n:Nat)=>(DataW.lit (.int .u8 (n:Int)):DataW Unit))=xs.map (·.1):=DataW.agg.inj hx1;have hx3:=congrArg (fun l=>l[i]?) hx2;simp only[List.getElem?_map,hi,hxi,Option.map_some,Option.some.injEq,e2]at hx3;have hk:k=n:=by cases hx3;rfl
  subst hk;rw[Nat.mul_one]at e1;have:=pN e1;simpa using this
section
variable {H : Type} {enc : TypeId × Value → H} {W : World}
theorem Eb(a:Addr)(x j:Nat):(a.add x).add j=a.add (x+j):=by
  unfold Addr.add;by_cases c:x=0
  ·subst c;simp
  ·by_cases d:j=0
   ·subst d;simp
   ·simp[c,d,Nat.add_assoc]
theorem Ea(b off j:Nat):(⟨b,off,none⟩:Addr).add j=⟨b,off+j,none⟩:=by
  unfold Addr.add;by_cases c:j=0
  ·subst c;simp
  ·simp[c]
theorem wM{α:Type}{g:α→List mY}{k:Nat}(kp:0<k)(gl:∀a,(g a).length=k):∀(L:List α)(i:Nat)(c:mY),(L.flatMap g)[i]? =some c→∃a,L[i/k]? =some a∧(g a)[i%k]? =some c
  |[],i,c,h=>by simp at h
  |s::S,i,c,h=>by
    rw[List.flatMap_cons]at h;by_cases q:i<k
    ·rw[List.getElem?_append_left (by rw[gl];exact q)]at h;exact⟨s,by rw[Nat.div_eq_of_lt q];rfl,by rw[Nat.mod_eq_of_lt q];exact h⟩
    ·rw[List.getElem?_append_right (by rw[gl];omega),gl]at h;obtain⟨a,h1,h2⟩:=wM kp gl S (i-k) c h;refine⟨a,?_,?_⟩
     ·rw[show i=(i-k)+k by omega,Nat.add_div_right _ kp];simpa using h1
     ·rw[show i=(i-k)+k by omega,Nat.add_mod_right];exact h2
/-- a slice of elements of k numbers each -/
theorem DX{α:Type}{k:Nat}{g:α→List mY}{Q:α→Prop}{tS tE:TypeId}{n:Nat}{x:Value}{y:DataW H×List MemPlace}(ht:Tryz.prog.underlying tS=some (.slice tE))(ck:Tryz.prog.cellsOf tE=k)(kp:0<k)(gl:∀a,(g a).length=k)
    (el:∀n cs y,DataW.trod enc Tryz.prog W 0 (fun _=>true) true n tE cs=some y→∃a,Q a∧cs=(g a).map cX)
    (h:DataW.trod enc Tryz.prog W 0 (fun _=>true) true n tS [x]=some y) (hfz:∀b off,MemPlace.cell b off∈y.2→W.frozen? ⟨b,off,none⟩=false):∃L:List α,rF W x k L.length (L.flatMap g)∧∀a∈L,Q a:=by
  have fl:∀L:List α,(L.flatMap g).length=L.length*k:=Go.Ev.Lay.flat_len' gl;rcases open_slice ht h with⟨e,_⟩|⟨a,len,cap,m,_,D,Pl,hcs,hb,hle,hmx,hmm,hx,hel⟩
  ·obtain rfl:x=.slice none 0 0:=by simpa using e
   exact⟨[],⟨by simp,.inl ⟨rfl,rfl⟩⟩,by simp⟩
  obtain rfl:x=.slice (some a) len cap:=by simpa using hcs
  have hm:m=cap:=by simpa using hmm
  subst hm;by_cases h0:len=0
  ·subst h0;exact⟨[],⟨by simp,.inr (.inl ⟨a,m,rfl,rfl⟩)⟩,by simp⟩
  rw[ck]at hel hx;have each:∀i,i<m→∃s:α,Q s∧∀j,j<k→W.cell? (a.add (i*k+j))=((g s).map cX)[j]? :=by
    intro i hi;obtain⟨cs',h1,h2⟩:=hel i hi;obtain⟨_,hl,hg⟩:=World.cells?_some h1;obtain⟨s,ok,rfl⟩:=el _ _ _ h2;exact⟨s,ok,fun j hj=>by rw[←Eb];exact hg j hj⟩
  have inh:Nonempty α:=⟨(each 0 (by omega)).choose⟩;obtain⟨f,hf⟩:∃f:Nat→α,∀i,i<m→Q (f i)∧∀j,j<k→W.cell? (a.add (i*k+j))=((g (f i)).map cX)[j]? :=by
    refine⟨fun i=>if h:i<m then Classical.choose (each i h)else Classical.choice inh,fun i hi=>?_⟩;simp only[dif_pos hi];exact Classical.choose_spec (each i hi)
  have cl:∀i,((g (f i)).map cX).length=k:=fun i=>by simp[gl]
  have first:=(hf 0 (by omega)).2 0 kp
  rw[List.getElem?_eq_getElem (by rw[cl];exact kp)]at first
  obtain⟨b,off,spot⟩:=a;have hfirst:spot=none∧∃C t fz,W.heap[b]? =some (.cells C t fz):=by
    have:=first
    rw[Nat.zero_mul,Nat.zero_add]at this;have:W.cell? ⟨b,off,spot⟩=some _:=this;unfold World.cell? at this;simp only[]at this;split at this
    ·rename_i C t fz hC;cases spot with
     |none=>exact⟨rfl,C,t,fz,hC⟩
     |some z=>simp at this
    ·cases this
  obtain⟨rfl,C,t,fz,hC⟩:=hfirst;have cellC:∀j v,W.cell? ((⟨b,off,none⟩:Addr).add j)=some v→C[off+j]? =some v:=by
    intro j v hv;rw[Ea]at hv;unfold World.cell? at hv;simp only[hC]at hv;simpa using hv
  have hall:∀j,j<m*k→∀v,((g (f (j/k))).map cX)[j%k]? =some v→C[off+j]? =some v:=by
    intro j hj v hv;have:=(hf (j/k) ((Nat.div_lt_iff_lt_mul kp).2 hj)).2 (j%k) (Nat.mod_lt _ kp);rw[show j/k*k+j%k=j by rw[Nat.mul_comm];exact Nat.div_add_mod j k,hv]at this;exact cellC _ _ this
  have lk:len*k≤m*k:=Nat.mul_le_mul_right _ hle;have lp:0<len*k:=Nat.mul_pos (by omega) kp;refine⟨(List.range len).map f,⟨fl _,.inr (.inr ⟨b,off,m,C,t,fz,by simp,by simpa using hle,by simp;omega,hC,?_,?_,?_⟩)⟩,?_⟩
  ·have hp:=hall (len*k-1) (by omega) _ (List.getElem?_eq_getElem (by rw[cl];exact Nat.mod_lt _ kp));have:=(Array.getElem?_eq_some_iff.1 hp).1;simp;omega
  ·intro i hi;simp only[List.length_map,List.length_range]at hi;have:=hfz b (off+i) (by rw[hx];simp[MemPlace.row];exact .inl (by omega));unfold World.frozen? at this;simp only[hC]at this;simpa using this
  ·intro i c hc;obtain⟨s,hp,h2⟩:=wM kp gl _ i c hc;rw[List.getElem?_map]at hp;have hlt:i/k<len:=by
     rcases Nat.lt_or_ge (i/k) len with q|q
     ·exact q
     ·rw[List.getElem?_eq_none (by simpa using q)]at hp;cases hp
   rw[List.getElem?_range hlt]at hp;simp only[Option.map_some,Option.some.injEq]at hp;subst hp;have hi:=(Nat.div_lt_iff_lt_mul kp).1 hlt;exact hall i (by omega) _ (by rw[List.getElem?_map,h2];rfl)
  ·intro s hs;simp only[List.mem_map,List.mem_range]at hs;obtain⟨i,hi,rfl⟩:=hs;exact(hf i (by omega)).1
theorem Kt:Tryz.prog.cellsOf 135=4:=by kernel_rfl
theorem c27:Tryz.prog.cellsOf 27=3:=by kernel_rfl
theorem c24:Tryz.prog.cellsOf 24=1:=by kernel_rfl
theorem c25:Tryz.prog.cellsOf 25=1:=by kernel_rfl
theorem c22:Tryz.prog.cellsOf 22=1:=by kernel_rfl
theorem Kf{α:Type}{l:List α}(h:l.length=4):∃a b c d,l=[a,b,c,d]:=by
  match l,h with
  |[a,b,c,d],_=>exact⟨a,b,c,d,rfl⟩
theorem zo{α:Type}{l:List α}(h:l.length=3):∃a b c,l=[a,b,c]:=by
  match l,h with
  |[a,b,c],_=>exact⟨a,b,c,rfl⟩
theorem G8{n:Nat}{x:Value}{y:DataW H×List MemPlace}(h:DataW.trod enc Tryz.prog W 0 (fun _=>true) true n 5 [x]=some y):∃k:Nat,k<256∧x=.int .u8 (k:Int):=by
  obtain⟨k0,e0,_,w0⟩:=DataW.trod_int Tryz.underlying5 h;have b0:=bounds_u8 w0;obtain⟨kk,rfl⟩:∃n:Nat,k0=n:=⟨k0.toNat,by omega⟩;exact⟨kk,by omega,by simpa using e0⟩
theorem el8(n:Nat)(cs:List Value)(y:DataW H×List MemPlace)(h:DataW.trod enc Tryz.prog W 0 (fun _=>true) true n 5 cs=some y):∃a:Nat,a<256∧cs=(gb8 a).map cX:=by
  obtain⟨k0,e0,_,w0⟩:=DataW.trod_int Tryz.underlying5 h;have b0:=bounds_u8 w0;obtain⟨kk,rfl⟩:∃n:Nat,k0=n:=⟨k0.toNat,by omega⟩;exact⟨kk,by omega,e0⟩
theorem el4(n:Nat)(cs:List Value)(y:DataW H×List MemPlace)(h:DataW.trod enc Tryz.prog W 0 (fun _=>true) true n 135 cs=some y):∃q:Nat×Nat×Nat×Nat,(q.1<256∧q.2.1<256∧q.2.2.1<256∧q.2.2.2<256)∧cs=(gq4 q).map cX:=by
  obtain⟨xs,m1,rfl,_,hlen,hn,he⟩:=DataW.trod_array Tryz.underlying135 h;rw[Kt]at hlen;rw[c5]at he;have get:∀i,i<4→∃k:Nat,k<256∧cs[i]? =some (.int .u8 (k:Int)):=by
    intro i hi;have hx:xs[i]? =some (xs[i]'(by omega)):=List.getElem?_eq_getElem _;obtain⟨k0,e0,_,w0⟩:=DataW.trod_int Tryz.underlying5 ((he i hi).trans hx);have b0:=bounds_u8 w0;obtain⟨kk,rfl⟩:∃n:Nat,k0=n:=⟨k0.toNat,by omega⟩;rw[Nat.mul_one]at e0;exact⟨kk,by omega,pN e0⟩
  obtain⟨a,ha,ea⟩:=get 0 (by omega);obtain⟨b,hb,eb⟩:=get 1 (by omega);obtain⟨c,hc,ec⟩:=get 2 (by omega);obtain⟨d,hd,ed⟩:=get 3 (by omega);refine⟨(a,b,c,d),⟨ha,hb,hc,hd⟩,?_⟩;obtain⟨v0,v1,v2,v3,rfl⟩:=Kf hlen;obtain rfl:v0=_:=by simpa using ea
  obtain rfl:v1=_:=by simpa using eb
  obtain rfl:v2=_:=by simpa using ec
  obtain rfl:v3=_:=by simpa using ed
  rfl
/-- the plain data of a list -/
theorem Kq{n:Nat}{cs:List Value}{y:DataW H×List MemPlace}(h:DataW.trod enc Tryz.prog W 0 (fun _=>true) true n 27 cs=some y)(hfz:∀b off,MemPlace.cell b off∈y.2→W.frozen? ⟨b,off,none⟩=false):
    ∃(u v:Value)(k:Nat)(L:List (Nat×Nat×Nat×Nat))(M:List Nat),cs=[u,v,.int .u8 ((k:Nat):Int)]∧k<256∧rF W u 4 L.length (L.flatMap gq4)∧(∀q∈L,q.1<256∧q.2.1<256∧q.2.2.1<256∧q.2.2.2<256)∧rF W v 1 M.length (M.flatMap gb8)∧∀n∈M,n<256:=by
  obtain⟨y0,y1,y2,n1,rfl,hl,h0,h1,h2⟩:=trod_struct3 Tryz.underlying27 h;rw[c27]at hl;have h0':DataW.trod enc Tryz.prog W 0 (fun _=>true) true n1 24 ((cs.drop 0).take (Tryz.prog.cellsOf 24))=some y0:=h0;have h1':DataW.trod enc Tryz.prog W 0 (fun _=>true) true n1 25 ((cs.drop 1).take (Tryz.prog.cellsOf 25))=some y1:=h1;have h2':DataW.trod enc Tryz.prog W 0 (fun _=>true) true n1 5 ((cs.drop 2).take (Tryz.prog.cellsOf 5))=some y2:=h2;rw[c24]at h0';rw[c25]at h1';rw[c5]at h2';obtain⟨v0,v1,v2,rfl⟩:=zo hl;obtain⟨z0,n2,hz,_,hy0⟩:=trod_struct1 Tryz.underlying24 h0';have hy:DataW.trod enc Tryz.prog W 0 (fun _=>true) true n2 22 (([v0].drop 0).take (Tryz.prog.cellsOf 22))=some z0:=hy0;rw[c22]at hy;have ez:y0.2=z0.2:=by simpa using(congrArg Prod.snd hz)
  obtain⟨L,c0,q0⟩:=DX Tryz.underlying22 Kt (by omega) (fun _=>rfl) el4 (show DataW.trod enc Tryz.prog W 0 (fun _=>true) true n2 22 [v0]=some z0 from hy) (fun b off hm=>hfz b off (by rw[←ez]at hm;simp[hm]));obtain⟨M,c1,q1⟩:=DX Tryz.underlying25 c5 (by omega) (fun _=>rfl) el8 (show DataW.trod enc Tryz.prog W 0 (fun _=>true) true n1 25 [v1]=some y1 from h1') (fun b off hm=>hfz b off (by simp[hm]));obtain⟨k,hk,rfl⟩:=G8 (show DataW.trod enc Tryz.prog W 0 (fun _=>true) true n1 5 [v2]=some y2 from h2');exact⟨v0,v1,k,L,M,rfl,hk,c0,q0,c1,q1⟩
theorem c30:Tryz.prog.cellsOf 30=2:=by kernel_rfl
theorem c28:Tryz.prog.cellsOf 28=1:=by kernel_rfl
theorem c31:Tryz.prog.cellsOf 31=1:=by kernel_rfl
theorem c33:Tryz.prog.cellsOf 33=4:=by kernel_rfl
theorem c34:Tryz.prog.cellsOf 34=2:=by kernel_rfl
theorem two{α:Type}{l:List α}(h:l.length=2):∃a b,l=[a,b]:=by
  match l,h with
  |[a,b],_=>exact⟨a,b,rfl⟩
theorem el2(n:Nat)(cs:List Value)(y:DataW H×List MemPlace)(h:DataW.trod enc Tryz.prog W 0 (fun _=>true) true n 34 cs=some y):∃q:Nat×Nat,(q.1<256∧q.2<256)∧cs=(gu2 q).map cX:=by
  obtain⟨xs,m1,rfl,_,hlen,hn,he⟩:=DataW.trod_array Tryz.underlying34 h;rw[c34]at hlen;rw[c5]at he;have get:∀i,i<2→∃k:Nat,k<256∧cs[i]? =some (.int .u8 (k:Int)):=by
    intro i hi;have hx:xs[i]? =some (xs[i]'(by omega)):=List.getElem?_eq_getElem _;obtain⟨k0,e0,_,w0⟩:=DataW.trod_int Tryz.underlying5 ((he i hi).trans hx);have b0:=bounds_u8 w0;obtain⟨kk,rfl⟩:∃n:Nat,k0=n:=⟨k0.toNat,by omega⟩;rw[Nat.mul_one]at e0;exact⟨kk,by omega,pN e0⟩
  obtain⟨a,ha,ea⟩:=get 0 (by omega);obtain⟨b,hb,eb⟩:=get 1 (by omega);refine⟨(a,b),⟨ha,hb⟩,?_⟩;obtain⟨v0,v1,rfl⟩:=two hlen;obtain rfl:v0=_:=by simpa using ea
  obtain rfl:v1=_:=by simpa using eb
  rfl
/-- the plain data of a frame -/
theorem Kr{n:Nat}{cs:List Value}{y:DataW H×List MemPlace}(h:DataW.trod enc Tryz.prog W 0 (fun _=>true) true n 33 cs=some y)(hfz:∀b off,MemPlace.cell b off∈y.2→W.frozen? ⟨b,off,none⟩=false):
    ∃(vw off ov:Nat)(v:Value)(P:List (Nat×Nat)),cs=[.int .u8 (vw:Int),.int .u16 (off:Int),.int .u8 (ov:Int),v]∧vw<256∧off<65536∧ov<256∧rF W v 2 P.length (P.flatMap gu2)∧∀p∈P,p.1<256∧p.2<256:=by
  obtain⟨y0,y1,y2,n1,rfl,hl,h0,h1,h2⟩:=trod_struct3 Tryz.underlying33 h;rw[c33]at hl;have h0':DataW.trod enc Tryz.prog W 0 (fun _=>true) true n1 30 ((cs.drop 0).take (Tryz.prog.cellsOf 30))=some y0:=h0;have h1':DataW.trod enc Tryz.prog W 0 (fun _=>true) true n1 5 ((cs.drop 2).take (Tryz.prog.cellsOf 5))=some y1:=h1;have h2':DataW.trod enc Tryz.prog W 0 (fun _=>true) true n1 31 ((cs.drop 3).take (Tryz.prog.cellsOf 31))=some y2:=h2;rw[c30]at h0';rw[c5]at h1';rw[c31]at h2';obtain⟨v0,v1,v2,v3,rfl⟩:=Kf hl;obtain⟨z0,z1,n2,_,_,g0,g1⟩:=trod_struct2 Tryz.underlying30 (show DataW.trod enc Tryz.prog W 0 (fun _=>true) true n1 30 [v0,v1]=some y0 from h0');have g0':DataW.trod enc Tryz.prog W 0 (fun _=>true) true n2 5 (([v0,v1].drop 0).take (Tryz.prog.cellsOf 5))=some z0:=g0;have g1':DataW.trod enc Tryz.prog W 0 (fun _=>true) true n2 28 (([v0,v1].drop 1).take (Tryz.prog.cellsOf 28))=some z1:=g1;rw[c5]at g0';rw[c28]at g1';obtain⟨vw,hv,rfl⟩:=G8 (show DataW.trod enc Tryz.prog W 0 (fun _=>true) true n2 5 [v0]=some z0 from g0');obtain⟨k1,e1,_,w1⟩:=DataW.trod_int Tryz.underlying28 g1';have b1:=bounds_u16 w1;obtain⟨off,rfl⟩:∃n:Nat,k1=n:=⟨k1.toNat,by omega⟩;obtain rfl:v1=.int .u16 (off:Int):=by have:[v1]=[.int .u16 (off:Int)]:=e1;simpa using this
  obtain⟨ov,ho,rfl⟩:=G8 (show DataW.trod enc Tryz.prog W 0 (fun _=>true) true n1 5 [v2]=some y1 from h1');obtain⟨P,c0,q0⟩:=DX Tryz.underlying31 c34 (by omega) (fun _=>rfl) el2 (show DataW.trod enc Tryz.prog W 0 (fun _=>true) true n1 31 [v3]=some y2 from h2') (fun b off hm=>hfz b off (by simp[hm]));exact⟨vw,off,ov,v3,P,rfl,hv,by omega,ho,c0,q0⟩
theorem BM{cs:Array Value}(h:cs.size=3):∃x y z,cs= #[x,y,z]:=by
  obtain⟨l⟩:=cs;match l,h with
  |[x,y,z],_=>exact⟨x,y,z,rfl⟩
end
end Go.Proofs.YtiiggfpadljcbaaGreatDoor
