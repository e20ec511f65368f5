/- An evaluator of the program, and contracts over it: ErRw to ErRw. -/
import Derived.Test.YtknldhlnhobdhaaGreatDoorRows
import Derived.ProofKit
import Derived.LaidMore
import Derived.OpenShut
import Derived.Stop.Joined
import Derived.Deep.Slices
import Derived.Deep.Strs
import Derived.Carry
import Derived.Test.YtknldhlnhobdhaaGreatDoorP18
set_option linter.unusedSimpArgs false
set_option linter.unusedVariables false
set_option linter.constructorNameAsVariable false
set_option linter.unnecessarySimpa false
namespace Go.Proofs.YtknldhlnhobdhaaGreatDoor
variable{α:Type}
open Go.ChangeShapes Go.WideShapes Go.ChangeAt Go.WideMaps Go.WideElems Go.RowKit Go.Deep
open Go.Ev.Lay (Tab kA rT ni cX gq4 gb8 ght)
theorem own:ownKnob Tryz.prog.godebug=none:=by kernel_rfl
theorem xV:laidOutB Tryz.prog=true:=by kernel_rfl
theorem Ov:Tryz.prog.globalNamed "math/bits.deBruijn64tab" =some 0:=by kernel_rfl
theorem Pc:(Tryz.prog.globals[0]?).map (·.type)=some 386:=by kernel_rfl
theorem c5:Tryz.prog.cellsOf 5=1:=by kernel_rfl
theorem PA:Tryz.prog.cellsOf 386=64:=by kernel_rfl
abbrev zR:List (String×DataW Unit):=[("math/bits.deBruijn64tab",Rows.laid_math_bits_deBruijn64tab)]
theorem HN{H:Type}:(Rows.laid_math_bits_deBruijn64tab:DataW H)=.agg (kA.map fun(n:Nat)=>.lit (.int .u8 (n:Int))):=rfl
theorem oV{l:List α}{i:Nat}{v:α}(h:(l.drop i).take 1=[v]):l[i]? =some v:=by
  have:((l.drop i).take 1)[0]? =some v:=by rw[h];rfl
  rw[List.getElem?_take,if_pos (by omega),List.getElem?_drop]at this;simpa using this
theorem J6{W:World}(h:laidMetH Tryz.prog zR W):Tab W:=by
  rw[MakeChecks.laidMetH_plain _ _ _ (by kernel_rfl)]at h;obtain⟨ps,⟨g0,t0,ar,f0,p0,q0,az,aN,Z,aR,aJ,aH⟩,_,aT⟩:=h;obtain rfl:=Option.some.inj (Ov.symm.trans az);obtain rfl:=Option.some.inj (Pc.symm.trans aN);obtain⟨xs,m1,rfl,hx,K,hn,ae⟩:=DataW.trod_array Tryz.underlying386 aR;rw[PA]at K;rw[c5]at ae;have an:ar.size=64:=by simpa using K
  obtain⟨⟨C,ty,hC⟩,_⟩:=aT 0 0 (by rw[aH,an];simp[MemPlace.row]);have eC:C=ar:=by
    unfold World.var? at Z;rw[Ov]at Z;simp only[Option.bind_some,hC]at Z;exact Option.some.inj Z
  subst eC;refine⟨C,ty,hC,an,fun i n hi=>?_⟩;have af:i<64:=(List.getElem?_eq_some_iff.1 hi).1;have ax:xs[i]? =some (xs[i]'(by omega)):=List.getElem?_eq_getElem _;have he:=ae i af;rw[ax]at he;obtain⟨k,e1,e2,_⟩:=DataW.trod_int Tryz.underlying5 he;simp at hx;have ak:=hx.1;rw[HN]at ak;have ay:(kA.map fun(n:Nat)=>(DataW.lit (.int .u8 (n:Int)):DataW Unit))=xs.map (·.1):=DataW.agg.inj ak;have ac:=congrArg (fun l=>l[i]?) ay;simp only[List.getElem?_map,hi,ax,Option.map_some,Option.some.injEq,e2]at ac;have hk:k=n:=by cases ac;rfl
  subst hk;rw[Nat.mul_one]at e1;have:=oV e1;simpa using this
section
variable {H : Type} {enc : TypeId × Value -> H} {W : World}
theorem IU(a:Addr)(x j:Nat):(a.add x).add j=a.add (x+j):=by
  unfold Addr.add;by_cases c:x=0
  ·subst c;simp
  ·by_cases d:j=0
   ·subst d;simp
   ·simp[c,d,Nat.add_assoc]
theorem IT(b Z j:Nat):(⟨b,Z,none⟩:Addr).add j=⟨b,Z+j,none⟩:=by
  unfold Addr.add;by_cases c:j=0
  ·subst c;simp
  ·simp[c]
theorem Ag{α:Type}{g:α→List ni}{k:Nat}(kp:0<k)(gl:∀a,(g a).length=k):∀(L:List α)(i:Nat)(c:ni),(L.flatMap g)[i]? =some c→∃a,L[i/k]? =some a∧(g a)[i%k]? =some c
  |[],i,c,h=>by simp at h
  |s::S,i,c,h=>by
    rw[List.flatMap_cons]at h;by_cases q:i<k
    ·rw[List.getElem?_append_left (by rw[gl];exact q)]at h;exact⟨s,by rw[Nat.div_eq_of_lt q];rfl,by rw[Nat.mod_eq_of_lt q];exact h⟩
    ·rw[List.getElem?_append_right (by rw[gl];omega),gl]at h;obtain⟨a,h1,h2⟩:=Ag kp gl S (i-k) c h;refine⟨a,?_,?_⟩
     ·rw[show i=(i-k)+k by omega,Nat.add_div_right _ kp];simpa using h1
     ·rw[show i=(i-k)+k by omega,Nat.add_mod_right];exact h2
/-- a slice of elements of k numbers each -/
theorem II{k:Nat}{g:α->List ni}{Q:α->Prop}{tS tE:TypeId}{n:Nat}{x:Value}{y:DataW H×List MemPlace}(ht:Tryz.prog.underlying tS=some (.slice tE))(ck:Tryz.prog.cellsOf tE=k)(kp:0<k)(gl:∀a,(g a).length=k)
    (el:∀n cs y,DataW.trod enc Tryz.prog W 0 (fun _=>true) true n tE cs=some y->∃a,Q a/\cs=(g a).map cX)
    (h:DataW.trod enc Tryz.prog W 0 (fun _=>true) true n tS [x]=some y) (aH:∀b off,MemPlace.cell b off∈y.2->W.frozen? ⟨b,off,none⟩=false):∃L:List α,rT W x k L.length (L.flatMap g)/\∀a∈L,Q a:=by
  have fl:∀L:List α,(L.flatMap g).length=L.length*k:=Go.Ev.Lay.flat_len' gl;rcases open_slice ht h with⟨e,_⟩|⟨a,len,cap,m,_,D,Pl,ay,hb,ar,aJ,ax,hx,an⟩
  ·obtain rfl:x=.slice none 0 0:=by simpa using e
   exact⟨[],⟨by simp,.inl ⟨rfl,rfl⟩⟩,by simp⟩
  obtain rfl:x=.slice (some a) len cap:=by simpa using ay
  have hm:m=cap:=by simpa using ax
  subst hm;by_cases h0:len=0
  ·subst h0;exact⟨[],⟨by simp,.inr (.inl ⟨a,m,rfl,rfl⟩)⟩,by simp⟩
  rw[ck]at an hx;have K:∀i,i<m->∃s:α,Q s/\∀j,j<k->W.cell? (a.add (i*k+j))=((g s).map cX)[j]? :=by
    intro i hi;obtain⟨aN,h1,h2⟩:=an i hi;obtain⟨_,hl,hg⟩:=World.cells?_some h1;obtain⟨s,ok,rfl⟩:=el _ _ _ h2;exact⟨s,ok,fun j hj=>by rw[<-IU];exact hg j hj⟩
  have az:Nonempty α:=⟨(K 0 (by omega)).choose⟩;obtain⟨f,hf⟩:∃f:Nat->α,∀i,i<m->Q (f i)/\∀j,j<k->W.cell? (a.add (i*k+j))=((g (f i)).map cX)[j]? :=by
    refine⟨fun i=>if h:i<m then Classical.choose (K i h)else Classical.choice az,fun i hi=>?_⟩;simp only[dif_pos hi];exact Classical.choose_spec (K i hi)
  have cl:∀i,((g (f i)).map cX).length=k:=fun i=>by simp[gl]
  have first:=(hf 0 (by omega)).2 0 kp
  rw[List.getElem?_eq_getElem (by rw[cl];exact kp)]at first
  obtain⟨b,off,Z⟩:=a;have ac:Z=none/\∃C t fz,W.heap[b]? =some (.cells C t fz):=by
    have:=first
    rw[Nat.zero_mul,Nat.zero_add]at this;have:W.cell? ⟨b,off,Z⟩=some _:=this;unfold World.cell? at this;simp only[]at this;split at this
    ·rename_i C t fz hC;cases Z with
     |none=>exact⟨rfl,C,t,fz,hC⟩
     |some z=>simp at this
    ·cases this
  obtain⟨rfl,C,t,fz,hC⟩:=ac;have af:∀j v,W.cell? ((⟨b,off,none⟩:Addr).add j)=some v->C[off+j]? =some v:=by
    intro j v hv;rw[IT]at hv;unfold World.cell? at hv;simp only[hC]at hv;simpa using hv
  have ae:∀j,j<m*k->∀v,((g (f (j/k))).map cX)[j%k]? =some v->C[off+j]? =some v:=by
    intro j hj v hv;have:=(hf (j/k) ((Nat.div_lt_iff_lt_mul kp).2 hj)).2 (j%k) (Nat.mod_lt _ kp);rw[show j/k*k+j%k=j by rw[Nat.mul_comm];exact Nat.div_add_mod j k,hv]at this;exact af _ _ this
  have lk:len*k<=m*k:=Nat.mul_le_mul_right _ ar;have lp:0<len*k:=Nat.mul_pos (by omega) kp;refine⟨(List.range len).map f,⟨fl _,.inr (.inr ⟨b,off,m,C,t,fz,by simp,by simpa using ar,by simp;omega,hC,?_,?_,?_⟩)⟩,?_⟩
  ·have hp:=ae (len*k-1) (by omega) _ (List.getElem?_eq_getElem (by rw[cl];exact Nat.mod_lt _ kp));have:=(Array.getElem?_eq_some_iff.1 hp).1;simp;omega
  ·intro i hi;simp at hi;have:=aH b (off+i) (by rw[hx];simp[MemPlace.row];exact .inl (by omega));unfold World.frozen? at this;simp only[hC]at this;simpa using this
  ·intro i c hc;obtain⟨s,hp,h2⟩:=Ag kp gl _ i c hc;rw[List.getElem?_map]at hp;have ak:i/k<len:=by
     rcases Nat.lt_or_ge (i/k) len with q|q
     ·exact q
     ·rw[List.getElem?_eq_none (by simpa using q)]at hp;cases hp
   rw[List.getElem?_range ak]at hp;simp at hp;subst hp;have hi:=(Nat.div_lt_iff_lt_mul kp).1 ak;exact ae i (by omega) _ (by rw[List.getElem?_map,h2];rfl)
  ·intro s hs;simp at hs;obtain⟨i,hi,rfl⟩:=hs;exact(hf i (by omega)).1
theorem ON:Tryz.prog.cellsOf 181=4:=by kernel_rfl
theorem c27:Tryz.prog.cellsOf 27=3:=by kernel_rfl
theorem c24:Tryz.prog.cellsOf 24=1:=by kernel_rfl
theorem c25:Tryz.prog.cellsOf 25=1:=by kernel_rfl
theorem c22:Tryz.prog.cellsOf 22=1:=by kernel_rfl
theorem KG{l:List α}(h:l.length=4):∃a b c d,l=[a,b,c,d]:=by
  match l,h with
  |[a,b,c,d],_=>exact⟨a,b,c,d,rfl⟩
theorem sG{l:List α}(h:l.length=3):∃a b c,l=[a,b,c]:=by
  match l,h with
  |[a,b,c],_=>exact⟨a,b,c,rfl⟩
theorem KZ{n:Nat}{x:Value}{y:DataW H×List MemPlace}(h:DataW.trod enc Tryz.prog W 0 (fun _=>true) true n 5 [x]=some y):∃k:Nat,k<256/\x=.int .u8 (k:Int):=by
  obtain⟨Z,K,_,w0⟩:=DataW.trod_int Tryz.underlying5 h;have b0:=bounds_u8 w0;obtain⟨kk,rfl⟩:∃n:Nat,Z=n:=⟨Z.toNat,by omega⟩;exact⟨kk,by omega,by simpa using K⟩
theorem el8(n:Nat)(cs:List Value)(y:DataW H×List MemPlace)(h:DataW.trod enc Tryz.prog W 0 (fun _=>true) true n 5 cs=some y):∃a:Nat,a<256/\cs=(gb8 a).map cX:=by
  obtain⟨Z,K,_,w0⟩:=DataW.trod_int Tryz.underlying5 h;have b0:=bounds_u8 w0;obtain⟨kk,rfl⟩:∃n:Nat,Z=n:=⟨Z.toNat,by omega⟩;exact⟨kk,by omega,K⟩
theorem el4(n:Nat)(cs:List Value)(y:DataW H×List MemPlace)(h:DataW.trod enc Tryz.prog W 0 (fun _=>true) true n 181 cs=some y):∃q:Nat×Nat×Nat×Nat,(q.1<256/\q.2.1<256/\q.2.2.1<256/\q.2.2.2<256)/\cs=(gq4 q).map cX:=by
  obtain⟨xs,m1,rfl,_,Z,hn,he⟩:=DataW.trod_array Tryz.underlying181 h;rw[ON]at Z;rw[c5]at he;have get:∀i,i<4->∃k:Nat,k<256/\cs[i]? =some (.int .u8 (k:Int)):=by
    intro i hi;have hx:xs[i]? =some (xs[i]'(by omega)):=List.getElem?_eq_getElem _;obtain⟨k0,K,_,w0⟩:=DataW.trod_int Tryz.underlying5 ((he i hi).trans hx);have b0:=bounds_u8 w0;obtain⟨kk,rfl⟩:∃n:Nat,k0=n:=⟨k0.toNat,by omega⟩;rw[Nat.mul_one]at K;exact⟨kk,by omega,oV K⟩
  obtain⟨a,ha,ea⟩:=get 0 (by omega);obtain⟨b,hb,eb⟩:=get 1 (by omega);obtain⟨c,hc,ec⟩:=get 2 (by omega);obtain⟨d,hd,ed⟩:=get 3 (by omega);refine⟨(a,b,c,d),⟨ha,hb,hc,hd⟩,?_⟩;obtain⟨v0,v1,v2,v3,rfl⟩:=KG Z;obtain rfl:v0=_:=by simpa using ea
  obtain rfl:v1=_:=by simpa using eb
  obtain rfl:v2=_:=by simpa using ec
  obtain rfl:v3=_:=by simpa using ed
  rfl
/-- the plain data of a list -/
theorem OK{n:Nat}{cs:List Value}{y:DataW H×List MemPlace}(h:DataW.trod enc Tryz.prog W 0 (fun _=>true) true n 27 cs=some y)(Z:∀b off,MemPlace.cell b off∈y.2->W.frozen? ⟨b,off,none⟩=false):
    ∃(u v:Value)(k:Nat)(L:List (Nat×Nat×Nat×Nat))(M:List Nat),cs=[u,v,.int .u8 ((k:Nat):Int)]/\k<256/\rT W u 4 L.length (L.flatMap gq4)/\(∀q∈L,q.1<256/\q.2.1<256/\q.2.2.1<256/\q.2.2.2<256)/\rT W v 1 M.length (M.flatMap gb8)/\∀n∈M,n<256:=by
  obtain⟨y0,y1,y2,n1,rfl,hl,h0,h1,h2⟩:=trod_struct3 Tryz.underlying27 h;rw[c27]at hl;have ae:DataW.trod enc Tryz.prog W 0 (fun _=>true) true n1 24 ((cs.drop 0).take (Tryz.prog.cellsOf 24))=some y0:=h0;have ac:DataW.trod enc Tryz.prog W 0 (fun _=>true) true n1 25 ((cs.drop 1).take (Tryz.prog.cellsOf 25))=some y1:=h1;have K:DataW.trod enc Tryz.prog W 0 (fun _=>true) true n1 5 ((cs.drop 2).take (Tryz.prog.cellsOf 5))=some y2:=h2;rw[c24]at ae;rw[c25]at ac;rw[c5]at K;obtain⟨v0,v1,v2,rfl⟩:=sG hl;obtain⟨z0,n2,hz,_,af⟩:=trod_struct1 Tryz.underlying24 ae;have hy:DataW.trod enc Tryz.prog W 0 (fun _=>true) true n2 22 (([v0].drop 0).take (Tryz.prog.cellsOf 22))=some z0:=af;rw[c22]at hy;have ez:y0.2=z0.2:=by simpa using(congrArg Prod.snd hz)
  obtain⟨L,c0,q0⟩:=II Tryz.underlying22 ON (by omega) (fun _=>rfl) el4 (show DataW.trod enc Tryz.prog W 0 (fun _=>true) true n2 22 [v0]=some z0 from hy) (fun b off hm=>Z b off (by rw[<-ez]at hm;simp[hm]));obtain⟨M,c1,q1⟩:=II Tryz.underlying25 c5 (by omega) (fun _=>rfl) el8 (show DataW.trod enc Tryz.prog W 0 (fun _=>true) true n1 25 [v1]=some y1 from ac) (fun b off hm=>Z b off (by simp[hm]));obtain⟨k,hk,rfl⟩:=KZ (show DataW.trod enc Tryz.prog W 0 (fun _=>true) true n1 5 [v2]=some y2 from K);exact⟨v0,v1,k,L,M,rfl,hk,c0,q0,c1,q1⟩
theorem c2:Tryz.prog.cellsOf 2=1:=by kernel_rfl
theorem c3:Tryz.prog.cellsOf 3=1:=by kernel_rfl
theorem c4:Tryz.prog.cellsOf 4=1:=by kernel_rfl
theorem two{l:List α}(h:l.length=2):∃a b,l=[a,b]:=by
  match l,h with
  |[a,b],_=>exact⟨a,b,rfl⟩
theorem wT{cs:Array Value}(h:cs.size=3):∃x y z,cs= #[x,y,z]:=by
  obtain⟨l⟩:=cs;match l,h with
  |[x,y,z],_=>exact⟨x,y,z,rfl⟩
end
end Go.Proofs.YtknldhlnhobdhaaGreatDoor
