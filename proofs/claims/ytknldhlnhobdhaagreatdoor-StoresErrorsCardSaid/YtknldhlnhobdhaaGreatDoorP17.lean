/- An evaluator of the program, and contracts over it: ErRw to ErRw. -/
import Derived.Test.YtknldhlnhobdhaaGreatDoorRows
import Derived.ProofKit
import Derived.LaidMore
import Derived.OpenShut
import Derived.Stop.Joined
import Derived.Deep.Slices
import Derived.Deep.Strs
import Derived.Carry
import Derived.Test.YtknldhlnhobdhaaGreatDoorP16
set_option linter.unusedSimpArgs false
set_option linter.unusedVariables false
set_option linter.constructorNameAsVariable false
set_option linter.unnecessarySimpa false
namespace Go.Proofs.YtknldhlnhobdhaaGreatDoor
open Go.ChangeShapes Go.WideShapes Go.ChangeAt Go.WideMaps Go.WideElems Go.RowKit Go.Deep
open Go.Ev.Lay (Tab jw rK mY cX gq4 gb8 ght)
theorem own:ownKnob Tryz.prog.godebug=none:=by kernel_rfl
theorem uM:laidOutB Tryz.prog=true:=by kernel_rfl
theorem KF:Tryz.prog.globalNamed "math/bits.deBruijn64tab" =some 0:=by kernel_rfl
theorem Li:(Tryz.prog.globals[0]?).map (·.type)=some 386:=by kernel_rfl
theorem c5:Tryz.prog.cellsOf 5=1:=by kernel_rfl
theorem LL:Tryz.prog.cellsOf 386=64:=by kernel_rfl
abbrev wz:List (String×DataW Unit):=[("math/bits.deBruijn64tab",Rows.laid_math_bits_deBruijn64tab)]
theorem DG{H:Type}:(Rows.laid_math_bits_deBruijn64tab:DataW H)=.agg (jw.map fun(n:Nat)=>.lit (.int .u8 (n:Int))):=rfl
theorem vN{α:Type}{l:List α}{i:Nat}{v:α}(h:(l.drop i).take 1=[v]):l[i]? =some v:=by
  have:((l.drop i).take 1)[0]? =some v:=by rw[h];rfl
  rw[List.getElem?_take,if_pos (by omega),List.getElem?_drop]at this;simpa using this
theorem GP{W:World}(h:laidMetH Tryz.prog wz W):Tab W:=by
  rw[MakeChecks.laidMetH_plain _ _ _ (by kernel_rfl)]at h;obtain⟨ps,⟨g0,t0,cs0,f0,p0,q0,hg0,ht0,hv0,hd0,hrest,hps⟩,_,hcl⟩:=h;obtain rfl:=Option.some.inj (KF.symm.trans hg0);obtain rfl:=Option.some.inj (Li.symm.trans ht0);obtain⟨xs,m1,rfl,hx,hlen,hn,hel⟩:=DataW.trod_array Tryz.underlying386 hd0;rw[LL]at hlen;rw[c5]at hel;have hsz:cs0.size=64:=by simpa using hlen
  obtain⟨⟨C,ty,hC⟩,_⟩:=hcl 0 0 (by rw[hps,hsz];simp[MemPlace.row]);have eC:C=cs0:=by
    unfold World.var? at hv0;rw[KF]at hv0;simp only[Option.bind_some,hC]at hv0;exact Option.some.inj hv0
  subst eC;refine⟨C,ty,hC,hsz,fun i n hi=>?_⟩;have hi64:i<64:=(List.getElem?_eq_some_iff.1 hi).1;have hxi:xs[i]? =some (xs[i]'(by omega)):=List.getElem?_eq_getElem _;have he:=hel i hi64;rw[hxi]at he;obtain⟨k,e1,e2,_⟩:=DataW.trod_int Tryz.underlying5 he;simp only[Prod.mk.injEq]at hx;have hx1:=hx.1;rw[DG]at hx1;have hx2:(jw.map fun(n:Nat)=>(DataW.lit (.int .u8 (n:Int)):DataW Unit))=xs.map (·.1):=DataW.agg.inj hx1;have hx3:=congrArg (fun l=>l[i]?) hx2;simp only[List.getElem?_map,hi,hxi,Option.map_some,Option.some.injEq,e2]at hx3;have hk:k=n:=by cases hx3;rfl
  subst hk;rw[Nat.mul_one]at e1;have:=vN e1;simpa using this
section
variable {H : Type} {enc : TypeId × Value → H} {W : World}
theorem EN(a:Addr)(x j:Nat):(a.add x).add j=a.add (x+j):=by
  unfold Addr.add;by_cases c:x=0
  ·subst c;simp
  ·by_cases d:j=0
   ·subst d;simp
   ·simp[c,d,Nat.add_assoc]
theorem EM(b off j:Nat):(⟨b,off,none⟩:Addr).add j=⟨b,off+j,none⟩:=by
  unfold Addr.add;by_cases c:j=0
  ·subst c;simp
  ·simp[c]
theorem wN{α:Type}{g:α→List mY}{k:Nat}(kp:0<k)(gl:∀a,(g a).length=k):∀(L:List α)(i:Nat)(c:mY),(L.flatMap g)[i]? =some c→∃a,L[i/k]? =some a∧(g a)[i%k]? =some c
  |[],i,c,h=>by simp at h
  |s::S,i,c,h=>by
    rw[List.flatMap_cons]at h;by_cases q:i<k
    ·rw[List.getElem?_append_left (by rw[gl];exact q)]at h;exact⟨s,by rw[Nat.div_eq_of_lt q];rfl,by rw[Nat.mod_eq_of_lt q];exact h⟩
    ·rw[List.getElem?_append_right (by rw[gl];omega),gl]at h;obtain⟨a,h1,h2⟩:=wN kp gl S (i-k) c h;refine⟨a,?_,?_⟩
     ·rw[show i=(i-k)+k by omega,Nat.add_div_right _ kp];simpa using h1
     ·rw[show i=(i-k)+k by omega,Nat.add_mod_right];exact h2
/-- a slice of elements of k numbers each -/
theorem ED{α:Type}{k:Nat}{g:α→List mY}{Q:α→Prop}{tS tE:TypeId}{n:Nat}{x:Value}{y:DataW H×List MemPlace}(ht:Tryz.prog.underlying tS=some (.slice tE))(ck:Tryz.prog.cellsOf tE=k)(kp:0<k)(gl:∀a,(g a).length=k)
    (el:∀n cs y,DataW.trod enc Tryz.prog W 0 (fun _=>true) true n tE cs=some y→∃a,Q a∧cs=(g a).map cX)
    (h:DataW.trod enc Tryz.prog W 0 (fun _=>true) true n tS [x]=some y) (hfz:∀b off,MemPlace.cell b off∈y.2→W.frozen? ⟨b,off,none⟩=false):∃L:List α,rK W x k L.length (L.flatMap g)∧∀a∈L,Q a:=by
  have fl:∀L:List α,(L.flatMap g).length=L.length*k:=Go.Ev.Lay.flat_len' gl;rcases open_slice ht h with⟨e,_⟩|⟨a,len,cap,m,_,D,Pl,hcs,hb,hle,hmx,hmm,hx,hel⟩
  ·obtain rfl:x=.slice none 0 0:=by simpa using e
   exact⟨[],⟨by simp,.inl ⟨rfl,rfl⟩⟩,by simp⟩
  obtain rfl:x=.slice (some a) len cap:=by simpa using hcs
  have hm:m=cap:=by simpa using hmm
  subst hm;by_cases h0:len=0
  ·subst h0;exact⟨[],⟨by simp,.inr (.inl ⟨a,m,rfl,rfl⟩)⟩,by simp⟩
  rw[ck]at hel hx;have each:∀i,i<m→∃s:α,Q s∧∀j,j<k→W.cell? (a.add (i*k+j))=((g s).map cX)[j]? :=by
    intro i hi;obtain⟨cs',h1,h2⟩:=hel i hi;obtain⟨_,hl,hg⟩:=World.cells?_some h1;obtain⟨s,ok,rfl⟩:=el _ _ _ h2;exact⟨s,ok,fun j hj=>by rw[←EN];exact hg j hj⟩
  have inh:Nonempty α:=⟨(each 0 (by omega)).choose⟩;obtain⟨f,hf⟩:∃f:Nat→α,∀i,i<m→Q (f i)∧∀j,j<k→W.cell? (a.add (i*k+j))=((g (f i)).map cX)[j]? :=by
    refine⟨fun i=>if h:i<m then Classical.choose (each i h)else Classical.choice inh,fun i hi=>?_⟩;simp only[dif_pos hi];exact Classical.choose_spec (each i hi)
  have cl:∀i,((g (f i)).map cX).length=k:=fun i=>by simp[gl]
  have first:=(hf 0 (by omega)).2 0 kp
  rw[List.getElem?_eq_getElem (by rw[cl];exact kp)]at first
  obtain⟨b,off,spot⟩:=a;have hfirst:spot=none∧∃C t fz,W.heap[b]? =some (.cells C t fz):=by
    have:=first
    rw[Nat.zero_mul,Nat.zero_add]at this;have:W.cell? ⟨b,off,spot⟩=some _:=this;unfold World.cell? at this;simp only[]at this;split at this
    ·rename_i C t fz hC;cases spot with
     |none=>exact⟨rfl,C,t,fz,hC⟩
     |some z=>simp at this
    ·cases this
  obtain⟨rfl,C,t,fz,hC⟩:=hfirst;have cellC:∀j v,W.cell? ((⟨b,off,none⟩:Addr).add j)=some v→C[off+j]? =some v:=by
    intro j v hv;rw[EM]at hv;unfold World.cell? at hv;simp only[hC]at hv;simpa using hv
  have hall:∀j,j<m*k→∀v,((g (f (j/k))).map cX)[j%k]? =some v→C[off+j]? =some v:=by
    intro j hj v hv;have:=(hf (j/k) ((Nat.div_lt_iff_lt_mul kp).2 hj)).2 (j%k) (Nat.mod_lt _ kp);rw[show j/k*k+j%k=j by rw[Nat.mul_comm];exact Nat.div_add_mod j k,hv]at this;exact cellC _ _ this
  have lk:len*k≤m*k:=Nat.mul_le_mul_right _ hle;have lp:0<len*k:=Nat.mul_pos (by omega) kp;refine⟨(List.range len).map f,⟨fl _,.inr (.inr ⟨b,off,m,C,t,fz,by simp,by simpa using hle,by simp;omega,hC,?_,?_,?_⟩)⟩,?_⟩
  ·have hp:=hall (len*k-1) (by omega) _ (List.getElem?_eq_getElem (by rw[cl];exact Nat.mod_lt _ kp));have:=(Array.getElem?_eq_some_iff.1 hp).1;simp;omega
  ·intro i hi;simp only[List.length_map,List.length_range]at hi;have:=hfz b (off+i) (by rw[hx];simp[MemPlace.row];exact .inl (by omega));unfold World.frozen? at this;simp only[hC]at this;simpa using this
  ·intro i c hc;obtain⟨s,hp,h2⟩:=wN kp gl _ i c hc;rw[List.getElem?_map]at hp;have hlt:i/k<len:=by
     rcases Nat.lt_or_ge (i/k) len with q|q
     ·exact q
     ·rw[List.getElem?_eq_none (by simpa using q)]at hp;cases hp
   rw[List.getElem?_range hlt]at hp;simp only[Option.map_some,Option.some.injEq]at hp;subst hp;have hi:=(Nat.div_lt_iff_lt_mul kp).1 hlt;exact hall i (by omega) _ (by rw[List.getElem?_map,h2];rfl)
  ·intro s hs;simp only[List.mem_map,List.mem_range]at hs;obtain⟨i,hi,rfl⟩:=hs;exact(hf i (by omega)).1
theorem KV:Tryz.prog.cellsOf 181=4:=by kernel_rfl
theorem c27:Tryz.prog.cellsOf 27=3:=by kernel_rfl
theorem c24:Tryz.prog.cellsOf 24=1:=by kernel_rfl
theorem c25:Tryz.prog.cellsOf 25=1:=by kernel_rfl
theorem c22:Tryz.prog.cellsOf 22=1:=by kernel_rfl
theorem LD{α:Type}{l:List α}(h:l.length=4):∃a b c d,l=[a,b,c,d]:=by
  match l,h with
  |[a,b,c,d],_=>exact⟨a,b,c,d,rfl⟩
theorem zL{α:Type}{l:List α}(h:l.length=3):∃a b c,l=[a,b,c]:=by
  match l,h with
  |[a,b,c],_=>exact⟨a,b,c,rfl⟩
theorem KY{n:Nat}{x:Value}{y:DataW H×List MemPlace}(h:DataW.trod enc Tryz.prog W 0 (fun _=>true) true n 5 [x]=some y):∃k:Nat,k<256∧x=.int .u8 (k:Int):=by
  obtain⟨k0,e0,_,w0⟩:=DataW.trod_int Tryz.underlying5 h;have b0:=bounds_u8 w0;obtain⟨kk,rfl⟩:∃n:Nat,k0=n:=⟨k0.toNat,by omega⟩;exact⟨kk,by omega,by simpa using e0⟩
theorem el8(n:Nat)(cs:List Value)(y:DataW H×List MemPlace)(h:DataW.trod enc Tryz.prog W 0 (fun _=>true) true n 5 cs=some y):∃a:Nat,a<256∧cs=(gb8 a).map cX:=by
  obtain⟨k0,e0,_,w0⟩:=DataW.trod_int Tryz.underlying5 h;have b0:=bounds_u8 w0;obtain⟨kk,rfl⟩:∃n:Nat,k0=n:=⟨k0.toNat,by omega⟩;exact⟨kk,by omega,e0⟩
theorem el4(n:Nat)(cs:List Value)(y:DataW H×List MemPlace)(h:DataW.trod enc Tryz.prog W 0 (fun _=>true) true n 181 cs=some y):∃q:Nat×Nat×Nat×Nat,(q.1<256∧q.2.1<256∧q.2.2.1<256∧q.2.2.2<256)∧cs=(gq4 q).map cX:=by
  obtain⟨xs,m1,rfl,_,hlen,hn,he⟩:=DataW.trod_array Tryz.underlying181 h;rw[KV]at hlen;rw[c5]at he;have get:∀i,i<4→∃k:Nat,k<256∧cs[i]? =some (.int .u8 (k:Int)):=by
    intro i hi;have hx:xs[i]? =some (xs[i]'(by omega)):=List.getElem?_eq_getElem _;obtain⟨k0,e0,_,w0⟩:=DataW.trod_int Tryz.underlying5 ((he i hi).trans hx);have b0:=bounds_u8 w0;obtain⟨kk,rfl⟩:∃n:Nat,k0=n:=⟨k0.toNat,by omega⟩;rw[Nat.mul_one]at e0;exact⟨kk,by omega,vN e0⟩
  obtain⟨a,ha,ea⟩:=get 0 (by omega);obtain⟨b,hb,eb⟩:=get 1 (by omega);obtain⟨c,hc,ec⟩:=get 2 (by omega);obtain⟨d,hd,ed⟩:=get 3 (by omega);refine⟨(a,b,c,d),⟨ha,hb,hc,hd⟩,?_⟩;obtain⟨v0,v1,v2,v3,rfl⟩:=LD hlen;obtain rfl:v0=_:=by simpa using ea
  obtain rfl:v1=_:=by simpa using eb
  obtain rfl:v2=_:=by simpa using ec
  obtain rfl:v3=_:=by simpa using ed
  rfl
/-- the plain data of a list -/
theorem KU{n:Nat}{cs:List Value}{y:DataW H×List MemPlace}(h:DataW.trod enc Tryz.prog W 0 (fun _=>true) true n 27 cs=some y)(hfz:∀b off,MemPlace.cell b off∈y.2→W.frozen? ⟨b,off,none⟩=false):
    ∃(u v:Value)(k:Nat)(L:List (Nat×Nat×Nat×Nat))(M:List Nat),cs=[u,v,.int .u8 ((k:Nat):Int)]∧k<256∧rK W u 4 L.length (L.flatMap gq4)∧(∀q∈L,q.1<256∧q.2.1<256∧q.2.2.1<256∧q.2.2.2<256)∧rK W v 1 M.length (M.flatMap gb8)∧∀n∈M,n<256:=by
  obtain⟨y0,y1,y2,n1,rfl,hl,h0,h1,h2⟩:=trod_struct3 Tryz.underlying27 h;rw[c27]at hl;have h0':DataW.trod enc Tryz.prog W 0 (fun _=>true) true n1 24 ((cs.drop 0).take (Tryz.prog.cellsOf 24))=some y0:=h0;have h1':DataW.trod enc Tryz.prog W 0 (fun _=>true) true n1 25 ((cs.drop 1).take (Tryz.prog.cellsOf 25))=some y1:=h1;have h2':DataW.trod enc Tryz.prog W 0 (fun _=>true) true n1 5 ((cs.drop 2).take (Tryz.prog.cellsOf 5))=some y2:=h2;rw[c24]at h0';rw[c25]at h1';rw[c5]at h2';obtain⟨v0,v1,v2,rfl⟩:=zL hl;obtain⟨z0,n2,hz,_,hy0⟩:=trod_struct1 Tryz.underlying24 h0';have hy:DataW.trod enc Tryz.prog W 0 (fun _=>true) true n2 22 (([v0].drop 0).take (Tryz.prog.cellsOf 22))=some z0:=hy0;rw[c22]at hy;have ez:y0.2=z0.2:=by simpa using(congrArg Prod.snd hz)
  obtain⟨L,c0,q0⟩:=ED Tryz.underlying22 KV (by omega) (fun _=>rfl) el4 (show DataW.trod enc Tryz.prog W 0 (fun _=>true) true n2 22 [v0]=some z0 from hy) (fun b off hm=>hfz b off (by rw[←ez]at hm;simp[hm]));obtain⟨M,c1,q1⟩:=ED Tryz.underlying25 c5 (by omega) (fun _=>rfl) el8 (show DataW.trod enc Tryz.prog W 0 (fun _=>true) true n1 25 [v1]=some y1 from h1') (fun b off hm=>hfz b off (by simp[hm]));obtain⟨k,hk,rfl⟩:=KY (show DataW.trod enc Tryz.prog W 0 (fun _=>true) true n1 5 [v2]=some y2 from h2');exact⟨v0,v1,k,L,M,rfl,hk,c0,q0,c1,q1⟩
theorem KW:Tryz.prog.cellsOf 122=2:=by kernel_rfl
theorem c30:Tryz.prog.cellsOf 30=1:=by kernel_rfl
theorem c2:Tryz.prog.cellsOf 2=1:=by kernel_rfl
theorem c3:Tryz.prog.cellsOf 3=1:=by kernel_rfl
theorem c4:Tryz.prog.cellsOf 4=1:=by kernel_rfl
theorem c29:Tryz.prog.cellsOf 29=3:=by kernel_rfl
theorem c32:Tryz.prog.cellsOf 32=2:=by kernel_rfl
theorem c34:Tryz.prog.cellsOf 34=5:=by kernel_rfl
theorem two{α:Type}{l:List α}(h:l.length=2):∃a b,l=[a,b]:=by
  match l,h with
  |[a,b],_=>exact⟨a,b,rfl⟩
theorem LF{α:Type}{l:List α}(h:l.length=5):∃a b c d e,l=[a,b,c,d,e]:=by
  match l,h with
  |[a,b,c,d,e],_=>exact⟨a,b,c,d,e,rfl⟩
theorem elH(n:Nat)(cs:List Value)(y:DataW H×List MemPlace)(h:DataW.trod enc Tryz.prog W 0 (fun _=>true) true n 122 cs=some y):
    ∃x:Nat×Int,(x.1<18446744073709551616∧-9223372036854775808≤x.2∧x.2≤9223372036854775807)∧cs=(ght x).map cX:=by
  obtain⟨y0,y1,n1,_,hl,h0,h1⟩:=trod_struct2 Tryz.underlying122 h;rw[KW]at hl;obtain⟨v0,v1,rfl⟩:=two hl;have h0':DataW.trod enc Tryz.prog W 0 (fun _=>true) true n1 30 (([v0,v1].drop 0).take (Tryz.prog.cellsOf 30))=some y0:=h0;have h1':DataW.trod enc Tryz.prog W 0 (fun _=>true) true n1 2 (([v0,v1].drop 1).take (Tryz.prog.cellsOf 2))=some y1:=h1;rw[c30]at h0';rw[c2]at h1';obtain⟨k0,e0,_,w0⟩:=DataW.trod_int Tryz.underlying30 h0';obtain⟨k1,e1,_,w1⟩:=DataW.trod_int Tryz.underlying2 h1';have b0:=bounds_u64 w0;have b1:=bounds_i64 w1;obtain⟨kk,rfl⟩:∃n:Nat,k0=n:=⟨k0.toNat,by omega⟩;have e0':v0=.int .u64 (kk:Int):=by have:[v0]=[.int .u64 (kk:Int)]:=e0;simpa using this
  have e1':v1=.int .i64 k1:=by have:[v1]=[.int .i64 k1]:=e1;simpa using this
  subst e0' e1';exact⟨(kk,k1),⟨by simp only[];omega,b1.1,b1.2⟩,rfl⟩
/-- a frame and an anchor -/
theorem elW(n:Nat)(cs:List Value)(y:DataW H×List MemPlace)(h:DataW.trod enc Tryz.prog W 0 (fun _=>true) true n 34 cs=some y):
    ∃(view over d:Int)(lo:Bool)(k:Nat),k<18446744073709551616∧cs=[.int .i64 view,.int .i64 over,.bool lo,.int .u64 (k:Int),.int .i64 d]:=by
  obtain⟨y0,y1,n1,_,hl,h0,h1⟩:=trod_struct2 Tryz.underlying34 h;rw[c34]at hl;obtain⟨v0,v1,v2,v3,v4,rfl⟩:=LF hl;have h0':DataW.trod enc Tryz.prog W 0 (fun _=>true) true n1 29 (([v0,v1,v2,v3,v4].drop 0).take (Tryz.prog.cellsOf 29))=some y0:=h0;have h1':DataW.trod enc Tryz.prog W 0 (fun _=>true) true n1 32 (([v0,v1,v2,v3,v4].drop 3).take (Tryz.prog.cellsOf 32))=some y1:=h1;rw[c29]at h0';rw[c32]at h1';obtain⟨z0,z1,z2,n2,_,_,g0,g1,g2⟩:=trod_struct3 Tryz.underlying29 (show DataW.trod enc Tryz.prog W 0 (fun _=>true) true n1 29 [v0,v1,v2]=some y0 from h0');obtain⟨z3,z4,n3,_,_,g3,g4⟩:=trod_struct2 Tryz.underlying32 (show DataW.trod enc Tryz.prog W 0 (fun _=>true) true n1 32 [v3,v4]=some y1 from h1');have g0':DataW.trod enc Tryz.prog W 0 (fun _=>true) true n2 2 (([v0,v1,v2].drop 0).take (Tryz.prog.cellsOf 2))=some z0:=g0;have g1':DataW.trod enc Tryz.prog W 0 (fun _=>true) true n2 3 (([v0,v1,v2].drop 1).take (Tryz.prog.cellsOf 3))=some z1:=g1;have g2':DataW.trod enc Tryz.prog W 0 (fun _=>true) true n2 4 (([v0,v1,v2].drop 2).take (Tryz.prog.cellsOf 4))=some z2:=g2;have g3':DataW.trod enc Tryz.prog W 0 (fun _=>true) true n3 30 (([v3,v4].drop 0).take (Tryz.prog.cellsOf 30))=some z3:=g3;have g4':DataW.trod enc Tryz.prog W 0 (fun _=>true) true n3 2 (([v3,v4].drop 1).take (Tryz.prog.cellsOf 2))=some z4:=g4;rw[c2]at g0' g4';rw[c3]at g1';rw[c4]at g2';rw[c30]at g3';obtain⟨a0,e0,_,_⟩:=DataW.trod_int Tryz.underlying2 g0';obtain⟨a1,e1,_,_⟩:=DataW.trod_int Tryz.underlying3 g1';obtain⟨a2,e2,_⟩:=DataW.trod_bool Tryz.underlying4 g2';obtain⟨a3,e3,_,w3⟩:=DataW.trod_int Tryz.underlying30 g3';obtain⟨a4,e4,_,_⟩:=DataW.trod_int Tryz.underlying2 g4';have b3:=bounds_u64 w3;obtain⟨kk,rfl⟩:∃n:Nat,a3=n:=⟨a3.toNat,by omega⟩;obtain rfl:v0=.int .i64 a0:=by have:[v0]=[.int .i64 a0]:=e0;simpa using this
  obtain rfl:v1=.int .i64 a1:=by have:[v1]=[.int .i64 a1]:=e1;simpa using this
  obtain rfl:v2=.bool a2:=by have:[v2]=[.bool a2]:=e2;simpa using this
  obtain rfl:v3=.int .u64 (kk:Int):=by have:[v3]=[.int .u64 (kk:Int)]:=e3;simpa using this
  obtain rfl:v4=.int .i64 a4:=by have:[v4]=[.int .i64 a4]:=e4;simpa using this
  exact⟨a0,a1,a4,a2,kk,by omega,rfl⟩
theorem Cm{cs:Array Value}(h:cs.size=3):∃x y z,cs= #[x,y,z]:=by
  obtain⟨l⟩:=cs;match l,h with
  |[x,y,z],_=>exact⟨x,y,z,rfl⟩
end
end Go.Proofs.YtknldhlnhobdhaaGreatDoor
