/- An evaluator of the program, and contracts over it: RxTl to RxTl. -/
import Derived.Test.YteojfkejdhhhpaaGreatDoorProg
import Derived.ProofKit
import Derived.LaidMore
import Derived.OpenShut
import Derived.Stop.Joined
import Derived.Deep.Slices
import Derived.Deep.Strs
import Derived.Carry
import Derived.SizedLaws
import Derived.Lib.SmallJoins
import Derived.Test.YteojfkejdhhhpaaGreatDoorP18
set_option linter.unusedSimpArgs false
set_option linter.unusedVariables false
set_option linter.constructorNameAsVariable false
set_option linter.unnecessarySimpa false
namespace Go.Proofs.YteojfkejdhhhpaaGreatDoor
open Go.ChangeShapes Go.WideShapes Go.ChangeAt Go.WideMaps Go.WideElems Go.RowKit Go.Deep
open Go.Ev (TU HasR V ARecs)
open Go.Ev.Lay
theorem s3:Tryz.prog.cellsOf 3=1:=by kernel_rfl
theorem s5:Tryz.prog.cellsOf 5=1:=by kernel_rfl
theorem s23:Tryz.prog.cellsOf 23=5:=by kernel_rfl
theorem s24:Tryz.prog.cellsOf 24=1:=by kernel_rfl
theorem s26:Tryz.prog.cellsOf 26=1:=by kernel_rfl
theorem s27:Tryz.prog.cellsOf 27=1:=by kernel_rfl
theorem s29:Tryz.prog.cellsOf 29=8:=by kernel_rfl
theorem s47:Tryz.prog.cellsOf 47=2:=by kernel_rfl
theorem s65:Tryz.prog.cellsOf 65=1:=by kernel_rfl
theorem s67:Tryz.prog.cellsOf 67=3:=by kernel_rfl
theorem Oo:Tryz.prog.cellsOf 125=6:=by kernel_rfl
theorem w5:Tryz.prog.bytesOf 5=1:=by kernel_rfl
theorem w67:Tryz.prog.bytesOf 67=32:=by kernel_rfl
theorem PI:Tryz.prog.bytesOf 125=6:=by kernel_rfl
theorem Jg(a:Addr)(x j:Nat):(a.add x).add j=a.add (x+j):=by
  unfold Addr.add;by_cases c:x=0
  ·subst c;simp
  ·by_cases d:j=0
   ·subst d;simp
   ·simp[c,d,Nat.add_assoc]
theorem Jf(b off j:Nat):(⟨b,off,none⟩:Addr).add j=⟨b,off+j,none⟩:=by
  unfold Addr.add;by_cases c:j=0
  ·subst c;simp
  ·simp[c]
theorem s9{β:Type}{k:Nat}(kp:0<k):∀(ys:List (List β)),(∀y∈ys,y.length=k)→∀(j:Nat)(x:β),ys.flatten[j]? =some x→∃y,ys[j/k]? =some y∧y[j%k]? =some x
  |[],_,j,x,h=>by simp at h
  |y::ys,hl,j,x,h=>by
    have ly:=hl y (by simp);rw[List.flatten_cons]at h;by_cases c:j<k
    ·rw[List.getElem?_append_left (by omega)]at h;exact⟨y,by rw[Nat.div_eq_of_lt c];rfl,by rw[Nat.mod_eq_of_lt c];exact h⟩
    ·rw[List.getElem?_append_right (by omega),ly]at h;obtain⟨z,h1,h2⟩:=s9 kp ys (fun y m=>hl y (by simp[m])) (j-k) x h;refine⟨z,?_,?_⟩
     ·rw[show j=(j-k)+k by omega,Nat.add_div_right _ kp];simpa using h1
     ·rw[show j=(j-k)+k by omega,Nat.add_mod_right];exact h2
section
variable {H : Type} {enc : TypeId × Value → H} {W : World}
theorem Oh{P:Program}{e:TypeId}:∀{ds:List (DataW H)}{d:DataW H},d∈ds→∀w∈d.weights P e,w∈DataW.weightsAll P e ds
  |_::_,_,m,w,hw=>by
    simp only[DataW.weightsAll,List.mem_append];rcases List.mem_cons.1 m with rfl|m
    ·exact .inl hw
    ·exact .inr (Oh m w hw)
theorem GC{α:Type}{k bs:Nat}{f:α→List V}{Φ:Go.Ev.Heap→α→Prop}{Q:α→Prop}{tS tE:TypeId}{n p:Nat}{x:Value}{y:DataW H×List MemPlace}(ht:Tryz.prog.underlying tS=some (.slice tE))(ck:Tryz.prog.cellsOf tE=k)(bk:Tryz.prog.bytesOf tE=bs)(kp:0<k)(fl:∀a,(f a).length=k)
    (nuf:∀a,∃v∈f a,∃n,v=V.int .u8 n)
    (el:∀n cs (z:DataW H×List MemPlace),SizeOf.sizeOf z.1<SizeOf.sizeOf y.1→DataW.trod enc Tryz.prog W 0 (fun _=>true) true n tE cs=some z→(∀b off,MemPlace.cell b off∈z.2→W.frozen? ⟨b,off,none⟩=false)→(∀w∈z.1.weights Tryz.prog tE,w≤reachBytes)→
      ∀p,∃a Ms Cs,TU W p (f a) cs Ms Cs∧(∀h,HasR h p Cs→Φ h a)∧Q a)
    (h:DataW.trod enc Tryz.prog W 0 (fun _=>true) true n tS [x]=some y) (hfz:∀b off,MemPlace.cell b off∈y.2→W.frozen? ⟨b,off,none⟩=false) (hw:∀w∈y.1.weights Tryz.prog tS,w≤reachBytes):
    ∃(v:V)(L:List α)(Ms:List (Option Go.Ev.Loc))(Cs:List (List V)),TU W p [v] [x] Ms Cs∧(∀h,HasR h p Cs→ARecs f k h v L∧∀a∈L,Φ h a)∧(∀a∈L,Q a)∧L.length*bs≤reachBytes∧Go.Ev.aP .lenS [v]=some (.int .i64 (L.length:Nat)):=by
  rcases open_slice ht h with⟨e,_⟩|⟨a,len,cap,m,n',D,Pl,hcs,hb,hle,hmx,hmm,hx,hel⟩
  ·obtain rfl:x=.slice none 0 0:=by simpa using e
   refine⟨.nils,[],[],[],Go.Ev.TU.flat (fun m=>⟨_,[],rfl,rfl,rfl⟩) (fun u hu=>?_),fun h _=>⟨⟨by simp,rfl⟩,by simp⟩,by simp,by simp,rfl⟩;rw[List.mem_singleton.1 hu];exact Go.Ev.VEx.nils
  obtain rfl:x=.slice (some a) len cap:=by simpa using hcs
  have hm:m=cap:=by simpa using hmm
  subst hm;by_cases h0:len=0
  ·subst h0;refine⟨.sliceZ a m,[],[],[],Go.Ev.TU.flat (fun _=>⟨_,[],rfl,rfl,rfl⟩) (fun u hu=>?_),fun h _=>⟨⟨by simp,rfl⟩,by simp⟩,by simp,by simp,rfl⟩;rw[List.mem_singleton.1 hu];exact Go.Ev.VEx.sliceZ _ _
  rw[ck]at hel hx;obtain⟨g,hg⟩:∃g:Nat→List Value,∀i,i<m→W.cells? 0 (a.add (i*k)) k=some (g i)∧DataW.trod enc Tryz.prog W 0 (fun _=>true) true n' tE (g i)=some (D i,Pl i):=by
    refine⟨fun i=>if h:i<m then Classical.choose (hel i h)else[],fun i hi=>?_⟩;simp only[dif_pos hi];exact Classical.choose_spec (hel i hi)
  have hgl:∀i,i<m→(g i).length=k∧∀j,j<k→W.cell? (a.add (i*k+j))=(g i)[j]? :=fun i hi=>by
    obtain⟨_,hl,hc⟩:=World.cells?_some (hg i hi).1;exact⟨hl,fun j hj=>by rw[←Jg];exact hc j hj⟩
  have hfD:∀i,i<len→(∀b off,MemPlace.cell b off∈Pl i→W.frozen? ⟨b,off,none⟩=false)∧∀w∈(D i).weights Tryz.prog tE,w≤reachBytes:=fun i hi=>by
    refine⟨fun b off hm=>hfz b off ?_,fun w hm=>hw w ?_⟩
    ·rw[hx];exact List.mem_append.2 (.inr (List.mem_flatMap.2 ⟨i,List.mem_range.2 (by omega),hm⟩))
    ·rw[hx];simp only[DataW.weights,ht,List.mem_cons,List.mem_append];exact .inr (.inl (Oh (List.mem_map.2 ⟨i,List.mem_range.2 hi,rfl⟩) w hm))
  obtain⟨L,Ms,Cs,ll,t,ph,q⟩:=Go.Ev.tu_list (W:=W) (f:=f) (Φ:=Φ) (Q:=Q) ((List.range len).map g) (p+1) fun y hy p=>by
    obtain⟨i,hi,rfl⟩:=List.mem_map.1 hy;have hi:=List.mem_range.1 hi;have hD:SizeOf.sizeOf (D i)<SizeOf.sizeOf y.1:=by
      rw[hx];have h1:SizeOf.sizeOf (D i)<SizeOf.sizeOf ((List.range len).map D):=List.sizeOf_lt_of_mem (List.mem_map.2 ⟨i,List.mem_range.2 hi,rfl⟩);simp only[DataW.slice.sizeOf_spec];omega
    exact el _ _ _ hD (hg i (by omega)).2 (hfD i hi).1 (hfD i hi).2 p
  obtain⟨z0,hz0⟩:∃z,(g 0)[0]? =some z:=⟨_,List.getElem?_eq_getElem (by rw[(hgl 0 (by omega)).1];exact kp)⟩;have first:=(hgl 0 (by omega)).2 0 kp
  rw[hz0]at first
  obtain⟨b,off,spot⟩:=a;have hfirst:spot=none∧∃C t fz,W.heap[b]? =some (.cells C t fz):=by
    have:=first
    rw[Nat.zero_mul,Nat.zero_add]at this;have:W.cell? ⟨b,off,spot⟩=some _:=this;unfold World.cell? at this;simp only[]at this;split at this
    ·rename_i C t fz hC;cases spot with
     |none=>exact⟨rfl,C,t,fz,hC⟩
     |some z=>simp at this
    ·cases this
  obtain⟨rfl,C,ty,fz,hC⟩:=hfirst;have cellC:∀j v,W.cell? ((⟨b,off,none⟩:Addr).add j)=some v→C[off+j]? =some v:=by
    intro j v hv;rw[Jf]at hv;unfold World.cell? at hv;simp only[hC]at hv;simpa using hv
  have lk:len*k≤m*k:=Nat.mul_le_mul_right _ hle;have lp:0<len*k:=Nat.mul_pos (by omega) kp;have hall:∀j,j<m*k→∀v,(g (j/k))[j%k]? =some v→C[off+j]? =some v:=by
    intro j hj v hv;have:=(hgl (j/k) ((Nat.div_lt_iff_lt_mul kp).2 hj)).2 (j%k) (Nat.mod_lt _ kp);rw[show j/k*k+j%k=j by rw[Nat.mul_comm];exact Nat.div_add_mod j k,hv]at this;exact cellC _ _ this
  have ll':L.length=len:=by simpa using ll
  have lf:(L.flatMap f).length=len*k:=by rw[Go.Ev.flat_len' fl,ll']
  refine⟨_,L,_,_,t.arr (b:=b) (off:=off) (n:=len) (k:=k) (cap:=m) hC ?_ ?_ ?_ lf hle ?_,fun h hr=>⟨?_,ph h hr.tail⟩,q,?_,by rw[ll'];rfl⟩
  ·have hj:(len*k-1)/k<m:=(Nat.div_lt_iff_lt_mul kp).2 (by omega);have hp:=hall (len*k-1) (by omega) _ (List.getElem?_eq_getElem (by rw[(hgl _ hj).1];exact Nat.mod_lt _ kp));have:=(Array.getElem?_eq_some_iff.1 hp).1;omega
  ·intro i hi;have:=hfz b (off+i) (by rw[hx];simp[MemPlace.row];exact .inl (by omega));unfold World.frozen? at this;simp only[hC]at this;simpa using this
  ·intro j u hu;obtain⟨y,h1,h2⟩:=s9 kp _ (fun y hy=>by
     obtain⟨i,hi,rfl⟩:=List.mem_map.1 hy;exact(hgl i (by have:=List.mem_range.1 hi;omega)).1) j u hu
   rw[List.getElem?_map]at h1;have hlt:j/k<len:=by
     rcases Nat.lt_or_ge (j/k) len with q|q
     ·exact q
     ·rw[List.getElem?_eq_none (by simpa using q)]at h1;cases h1
   rw[List.getElem?_range hlt]at h1;simp only[Option.map_some,Option.some.injEq]at h1;subst h1;have hj:=(Nat.div_lt_iff_lt_mul kp).1 hlt;exact hall j (by omega) _ h2
  ·obtain⟨a0,l0,eL⟩:∃a0 l0,L=a0::l0:=by cases L with|nil=>simp at ll';omega|cons a0 l0=>exact⟨a0,l0,rfl⟩
   obtain⟨v,hv,ne⟩:=nuf a0;exact⟨v,by rw[eL,List.flatMap_cons];exact List.mem_append.2 (.inl hv),ne⟩
  ·refine⟨by rw[ll'];exact lf,ll'.symm,by rw[ll'];exact hle,_,.inr (hr 0 _ rfl),by rw[ll',lf];omega,by rw[List.drop_zero,List.take_of_length_le (by rw[ll',lf];omega)]⟩
  ·have:=hw ((len+(m-len)) *bs) (by rw[hx];simp[DataW.weights,ht,bk]);rw[ll'];exact Nat.le_trans (Nat.mul_le_mul_right _ (by omega)) this
end
theorem P2{α:Type}{l:List α}(h:l.length=1):∃a0,l=[a0]:=by
  match l,h with
  |[a0],_=>exact⟨a0,rfl⟩
theorem P1{α:Type}{l:List α}(h:l.length=2):∃a0 a1,l=[a0,a1]:=by
  match l,h with
  |[a0,a1],_=>exact⟨a0,a1,rfl⟩
theorem OC{α:Type}{l:List α}(h:l.length=3):∃a0 a1 a2,l=[a0,a1,a2]:=by
  match l,h with
  |[a0,a1,a2],_=>exact⟨a0,a1,a2,rfl⟩
theorem P0{α:Type}{l:List α}(h:l.length=4):∃a0 a1 a2 a3,l=[a0,a1,a2,a3]:=by
  match l,h with
  |[a0,a1,a2,a3],_=>exact⟨a0,a1,a2,a3,rfl⟩
theorem PY{α:Type}{l:List α}(h:l.length=5):∃a0 a1 a2 a3 a4,l=[a0,a1,a2,a3,a4]:=by
  match l,h with
  |[a0,a1,a2,a3,a4],_=>exact⟨a0,a1,a2,a3,a4,rfl⟩
theorem PX{α:Type}{l:List α}(h:l.length=6):∃a0 a1 a2 a3 a4 a5,l=[a0,a1,a2,a3,a4,a5]:=by
  match l,h with
  |[a0,a1,a2,a3,a4,a5],_=>exact⟨a0,a1,a2,a3,a4,a5,rfl⟩
theorem PV{α:Type}{l:List α}(h:l.length=8):∃a0 a1 a2 a3 a4 a5 a6 a7,l=[a0,a1,a2,a3,a4,a5,a6,a7]:=by
  match l,h with
  |[a0,a1,a2,a3,a4,a5,a6,a7],_=>exact⟨a0,a1,a2,a3,a4,a5,a6,a7,rfl⟩
section
variable {H : Type} {enc : TypeId × Value → H} {W : World}
theorem elB{n:Nat}{cs:List Value}{y:DataW H×List MemPlace}(h:DataW.trod enc Tryz.prog W 0 (fun _=>true) true n 5 cs=some y):∃k:Nat,k<256∧cs=[.int .u8 (k:Int)]:=by
  obtain⟨k0,e0,_,w0⟩:=DataW.trod_int Tryz.underlying5 h;have b0:=bounds_u8 w0;obtain⟨kk,rfl⟩:∃n:Nat,k0=n:=⟨k0.toNat,by omega⟩;exact⟨kk,by omega,e0⟩
/-- a row of bytes -/
theorem Qd{n:Nat}:∀{vs:List Value},(∀v∈vs,∃y:DataW H×List MemPlace,DataW.trod enc Tryz.prog W 0 (fun _=>true) true n 5 [v]=some y)→∃ks:List Nat,vs=ks.map (fun k=>.int .u8 (k:Int))∧∀k∈ks,k<256
  |[],_=>⟨[],rfl,by simp⟩
  |v::vs,h=>by
    obtain⟨y,hy⟩:=h v (by simp);obtain⟨k,hk,e⟩:=elB hy;cases e;obtain⟨ks,rfl,hks⟩:=Qd (vs:=vs) fun u m=>h u (by simp[m]);exact⟨k::ks,rfl,fun x m=>(List.mem_cons.1 m).elim (fun e=>e▸hk) (hks x)⟩
theorem elZ{n:Nat}{cs:List Value}{y:DataW H×List MemPlace}(h:DataW.trod enc Tryz.prog W 0 (fun _=>true) true n 3 cs=some y):∃k:Int,i64 k∧cs=[.int .i64 k]:=by
  obtain⟨k0,e0,_,w0⟩:=DataW.trod_int Tryz.underlying3 h;have b0:=bounds_i64 w0;exact⟨k0,⟨by omega,by omega⟩,e0⟩
theorem tI{p:Nat}(k:IntKind)(n:Int):TU W p [.int k n] [.int k n] [] []:=Go.Ev.TU.flat (fun m=>⟨_,_,rfl,rfl,rfl⟩) (fun u hu=>by rw[List.mem_singleton.1 hu];exact Go.Ev.VEx.int _ _)
theorem tA{p:Nat}{vs vs':List V}{xs xs':List Value}{Ms:List (Option Go.Ev.Loc)}{Cs:List (List V)}(s:TU W p vs xs [] [])(t:TU W p vs' xs' Ms Cs):TU W p (vs++vs') (xs++xs') Ms Cs:=s.app t
theorem elC(n:Nat)(cs:List Value)(y:DataW H×List MemPlace)(h:DataW.trod enc Tryz.prog W 0 (fun _=>true) true n 5 cs=some y)(p:Nat):
    ∃(a:Nat)(Ms:List (Option Go.Ev.Loc))(Cs:List (List V)),TU W p (u8C a) cs Ms Cs∧(∀h,HasR h p Cs→(fun(_:Go.Ev.Heap)(_:Nat)=>True) h a)∧(fun c:Nat=>c<256) a:=by
  obtain⟨k,hk,e⟩:=elB h;cases e;exact⟨k,[],[],tI .u8 (k:Int),fun _ _=>trivial,hk⟩
/-- six bytes -/
theorem elA(n:Nat)(cs:List Value)(y:DataW H×List MemPlace)(h:DataW.trod enc Tryz.prog W 0 (fun _=>true) true n 125 cs=some y)(p:Nat):
    ∃(a:B6)(Ms:List (Option Go.Ev.Loc))(Cs:List (List V)),TU W p a.cells cs Ms Cs∧(∀h,HasR h p Cs→(fun(_:Go.Ev.Heap)(_:B6)=>True) h a)∧B6.ok a:=by
  obtain⟨xs,m1,rfl,hx,hlen,hn,hel⟩:=DataW.trod_array Tryz.underlying125 h;rw[s5]at hel;rw[Oo]at hlen;obtain⟨v0,v1,v2,v3,v4,v5,rfl⟩:=PX hlen;have hn6:xs.length=6:=hn;have g:∀(i:Nat) v,[v0,v1,v2,v3,v4,v5][i]? =some v→∃y:DataW H×List MemPlace,DataW.trod enc Tryz.prog W 0 (fun _=>true) true m1 5 [v]=some y:=fun i v hv=>by
    have hi:i<6:=(List.getElem?_eq_some_iff.1 hv).1;have he:=hel i hi;rw[List.getElem?_eq_getElem (show i<xs.length by omega)]at he;have ht:(([v0,v1,v2,v3,v4,v5].drop i).take 1)=[v]:=by
      rw[List.drop_eq_getElem_cons (by exact hi)];have:=(List.getElem?_eq_some_iff.1 hv).2;rw[this];rfl
    rw[Nat.mul_one,ht]at he;exact⟨_,he⟩
  obtain⟨k0,hk0,e0⟩:=elB (g 0 _ rfl).choose_spec;obtain⟨k1,hk1,e1⟩:=elB (g 1 _ rfl).choose_spec;obtain⟨k2,hk2,e2⟩:=elB (g 2 _ rfl).choose_spec;obtain⟨k3,hk3,e3⟩:=elB (g 3 _ rfl).choose_spec;obtain⟨k4,hk4,e4⟩:=elB (g 4 _ rfl).choose_spec;obtain⟨k5,hk5,e5⟩:=elB (g 5 _ rfl).choose_spec;cases e0;cases e1;cases e2;cases e3;cases e4;cases e5;exact⟨⟨k0,k1,k2,k3,k4,k5⟩,[],[],tA (tI .u8 (k0:Int)) (tA (tI .u8 (k1:Int)) (tA (tI .u8 (k2:Int)) (tA (tI .u8 (k3:Int)) (tA (tI .u8 (k4:Int)) (tI .u8 (k5:Int)))))),fun _ _=>trivial,hk0,hk1,hk2,hk3,hk4,hk5⟩
/-- two numbers -/
theorem Oj{n:Nat}{cs:List Value}{y:DataW H×List MemPlace}(h:DataW.trod enc Tryz.prog W 0 (fun _=>true) true n 47 cs=some y):∃n0 n1:Int,i64 n0∧i64 n1∧cs=[.int .i64 n0,.int .i64 n1]:=by
  obtain⟨xs,m1,rfl,hx,hlen,hn,hel⟩:=DataW.trod_array Tryz.underlying47 h;rw[s3]at hel;rw[s47]at hlen;obtain⟨v0,v1,rfl⟩:=P1 hlen;have hn2:xs.length=2:=hn;have h0:=hel 0 (by decide);have h1:=hel 1 (by decide);rw[List.getElem?_eq_getElem (show 0<xs.length by omega)]at h0;rw[List.getElem?_eq_getElem (show 1<xs.length by omega)]at h1;obtain⟨n0,i0,e0⟩:=elZ (show DataW.trod enc Tryz.prog W 0 (fun _=>true) true m1 3 [v0]=some _ from h0);obtain⟨n1,i1,e1⟩:=elZ (show DataW.trod enc Tryz.prog W 0 (fun _=>true) true m1 3 [v1]=some _ from h1);cases e0;cases e1;exact⟨n0,n1,i0,i1,rfl⟩
/-- a template as it is drawn -/
theorem elP(n:Nat)(cs:List Value)(y:DataW H×List MemPlace)(h:DataW.trod enc Tryz.prog W 0 (fun _=>true) true n 67 cs=some y)(hfz:∀b off,MemPlace.cell b off∈y.2→W.frozen? ⟨b,off,none⟩=false)(hw:∀w∈y.1.weights Tryz.prog 67,w≤reachBytes)(p:Nat):
    ∃(a:P14)(Ms:List (Option Go.Ev.Loc))(Cs:List (List V)),TU W p a.cells cs Ms Cs∧(∀h,HasR h p Cs→P14H h a)∧(fun _:P14=>True) a:=by
  obtain⟨xs,n1,_,rfl,hl,hlen,hf⟩:=DataW.trod_struct Tryz.underlying67 h;rw[s67]at hl;obtain⟨v0,v1,v2,rfl⟩:=OC hl;obtain⟨y0,y1,y2,rfl⟩:=OC hlen;have h0:DataW.trod enc Tryz.prog W 0 (fun _=>true) true n1 5 (([v0,v1,v2].drop 0).take (Tryz.prog.cellsOf 5))=some y0:=hf 0 _ rfl;rw[s5]at h0;have h0:DataW.trod enc Tryz.prog W 0 (fun _=>true) true n1 5 [v0]=some y0:=h0;have h1:DataW.trod enc Tryz.prog W 0 (fun _=>true) true n1 5 (([v0,v1,v2].drop 1).take (Tryz.prog.cellsOf 5))=some y1:=hf 1 _ rfl;rw[s5]at h1;have h1:DataW.trod enc Tryz.prog W 0 (fun _=>true) true n1 5 [v1]=some y1:=h1;have h2:DataW.trod enc Tryz.prog W 0 (fun _=>true) true n1 65 (([v0,v1,v2].drop 2).take (Tryz.prog.cellsOf 65))=some y2:=hf 2 _ rfl;rw[s65]at h2;have h2:DataW.trod enc Tryz.prog W 0 (fun _=>true) true n1 65 [v2]=some y2:=h2;obtain⟨k0,hk0,e0⟩:=elB h0;obtain⟨k1,hk1,e1⟩:=elB h1;obtain⟨v,L,Ms,Cs,T,r,hQ,hL,_⟩:=GC (p:=p) (f:=u8C) Tryz.underlying65 s5 w5 (by omega) Cv (fun a=>⟨_,List.mem_singleton.2 rfl,_,rfl⟩) (fun n cs z _ g _ _ p=>elC n cs z g p) h2 (fun b off m=>hfz b off (by simp[m])) (fun w m=>hw w (by
    simp only[DataW.weights,Tryz.underlying67,DataW.weightsEach,List.map_cons,List.mem_append];simp[m]))
  cases e0;cases e1;have rb:=reachBytes_lt;exact⟨⟨k0,k1,v,L⟩,Ms,Cs,tA (tI .u8 (k0:Int)) (tA (tI .u8 (k1:Int)) T),fun h hr=>⟨hk1,(r h hr).1,hQ,by show L.length<281474976710656;omega⟩,trivial⟩
theorem Pd(a:B6):∃v∈a.cells,∃n,v=V.int .u8 n:=⟨_,List.mem_cons_self ..,_,rfl⟩
theorem MY(a:P14):∃v∈a.cells,∃n,v=V.int .u8 n:=⟨_,List.mem_cons_self ..,_,rfl⟩
/-- a script as it is drawn -/
theorem Oi{n p:Nat}{cs:List Value}{y:DataW H×List MemPlace}(h:DataW.trod enc Tryz.prog W 0 (fun _=>true) true n 29 cs=some y)(hfz:∀b off,MemPlace.cell b off∈y.2→W.frozen? ⟨b,off,none⟩=false)(hw:∀w∈y.1.weights Tryz.prog 29,w≤reachBytes):
    ∃(x:SIn)(Ms:List (Option Go.Ev.Loc))(Cs:List (List V)),cs.length=8∧TU W p x.cells cs Ms Cs∧∀h,HasR h p Cs→SInH h x:=by
  obtain⟨xs,n1,_,rfl,hl,hlen,hf⟩:=DataW.trod_struct Tryz.underlying29 h;rw[s29]at hl;obtain⟨v0,v1,v2,v3,v4,v5,v6,v7,rfl⟩:=PV hl;obtain⟨y0,y1,y2,y3,rfl⟩:=P0 hlen;have h0:DataW.trod enc Tryz.prog W 0 (fun _=>true) true n1 23 (([v0,v1,v2,v3,v4,v5,v6,v7].drop 0).take (Tryz.prog.cellsOf 23))=some y0:=hf 0 _ rfl;rw[s23]at h0;have h0:DataW.trod enc Tryz.prog W 0 (fun _=>true) true n1 23 [v0,v1,v2,v3,v4]=some y0:=h0;have h1:DataW.trod enc Tryz.prog W 0 (fun _=>true) true n1 26 (([v0,v1,v2,v3,v4,v5,v6,v7].drop 5).take (Tryz.prog.cellsOf 26))=some y1:=hf 1 _ rfl;rw[s26]at h1;have h1:DataW.trod enc Tryz.prog W 0 (fun _=>true) true n1 26 [v5]=some y1:=h1;have h2:DataW.trod enc Tryz.prog W 0 (fun _=>true) true n1 27 (([v0,v1,v2,v3,v4,v5,v6,v7].drop 6).take (Tryz.prog.cellsOf 27))=some y2:=hf 2 _ rfl;rw[s27]at h2;have h2:DataW.trod enc Tryz.prog W 0 (fun _=>true) true n1 27 [v6]=some y2:=h2;have h3:DataW.trod enc Tryz.prog W 0 (fun _=>true) true n1 5 (([v0,v1,v2,v3,v4,v5,v6,v7].drop 7).take (Tryz.prog.cellsOf 5))=some y3:=hf 3 _ rfl;rw[s5]at h3;have h3:DataW.trod enc Tryz.prog W 0 (fun _=>true) true n1 5 [v7]=some y3:=h3;obtain⟨zs,n2,_,rfl,_,hlen2,hf2⟩:=DataW.trod_struct Tryz.underlying23 h0;obtain⟨z0,z1,z2,z3,z4,rfl⟩:=PY hlen2;have c0:DataW.trod enc Tryz.prog W 0 (fun _=>true) true n2 5 (([v0,v1,v2,v3,v4].drop 0).take (Tryz.prog.cellsOf 5))=some z0:=hf2 0 _ rfl;rw[s5]at c0;obtain⟨k0,hk0,e0⟩:=elB (show DataW.trod enc Tryz.prog W 0 (fun _=>true) true n2 5 [v0]=some z0 from c0);have c1:DataW.trod enc Tryz.prog W 0 (fun _=>true) true n2 5 (([v0,v1,v2,v3,v4].drop 1).take (Tryz.prog.cellsOf 5))=some z1:=hf2 1 _ rfl;rw[s5]at c1;obtain⟨k1,hk1,e1⟩:=elB (show DataW.trod enc Tryz.prog W 0 (fun _=>true) true n2 5 [v1]=some z1 from c1);have c2:DataW.trod enc Tryz.prog W 0 (fun _=>true) true n2 5 (([v0,v1,v2,v3,v4].drop 2).take (Tryz.prog.cellsOf 5))=some z2:=hf2 2 _ rfl;rw[s5]at c2;obtain⟨k2,hk2,e2⟩:=elB (show DataW.trod enc Tryz.prog W 0 (fun _=>true) true n2 5 [v2]=some z2 from c2);have c3:DataW.trod enc Tryz.prog W 0 (fun _=>true) true n2 5 (([v0,v1,v2,v3,v4].drop 3).take (Tryz.prog.cellsOf 5))=some z3:=hf2 3 _ rfl;rw[s5]at c3;obtain⟨k3,hk3,e3⟩:=elB (show DataW.trod enc Tryz.prog W 0 (fun _=>true) true n2 5 [v3]=some z3 from c3);have c4:DataW.trod enc Tryz.prog W 0 (fun _=>true) true n2 5 (([v0,v1,v2,v3,v4].drop 4).take (Tryz.prog.cellsOf 5))=some z4:=hf2 4 _ rfl;rw[s5]at c4;obtain⟨k4,hk4,e4⟩:=elB (show DataW.trod enc Tryz.prog W 0 (fun _=>true) true n2 5 [v4]=some z4 from c4);obtain⟨k7,hk7,e7⟩:=elB h3;obtain⟨us,n3,_,rfl,_,hlen3,hf3⟩:=DataW.trod_struct Tryz.underlying26 h1;obtain⟨u0,rfl⟩:=P2 hlen3;have d0:=hf3 0 _ rfl;have d0:DataW.trod enc Tryz.prog W 0 (fun _=>true) true n3 24 (([v5].drop 0).take (Tryz.prog.cellsOf 24))=some u0:=d0;rw[s24]at d0;have d0:DataW.trod enc Tryz.prog W 0 (fun _=>true) true n3 24 [v5]=some u0:=d0;obtain⟨vB,L,Ms,Cs,T,r,q,hL,_⟩:=GC (p:=p) (f:=B6.cells) Tryz.underlying24 Oo PI (by omega) BX Pd (fun n cs z _ g _ _ p=>elA n cs z g p) d0 (fun b off m=>hfz b off (by simp[m])) (fun w m=>hw w (by
    simp only[DataW.weights,Tryz.underlying29,Tryz.underlying26,DataW.weightsEach,List.map_cons,List.mem_append];simp[m]))
  obtain⟨vP,L',Ms',Cs',T',r',_,hL',_⟩:=GC (p:=p+Ms.length) (f:=P14.cells) Tryz.underlying27 s67 w67 (by omega) CH MY (fun n cs z _ g f w p=>elP n cs z g f w p) h2 (fun b off m=>hfz b off (by simp[m])) (fun w m=>hw w (by
    simp only[DataW.weights,Tryz.underlying29,DataW.weightsEach,List.map_cons,List.mem_append];simp[m]))
  cases e0;cases e1;cases e2;cases e3;cases e4;cases e7;have rb:=reachBytes_lt;refine⟨⟨k0,k1,k2,k3,k4,vB,L,vP,L',k7⟩,Ms++Ms',Cs++Cs',rfl,?_,fun h hr=>⟨⟨hk0,hk1,hk2,hk3,hk4⟩,(r h hr.left).1,q,by show L.length<_;omega,(r' h (by rw[T.l];exact hr.right)).1,(r' h (by rw[T.l];exact hr.right)).2,hk7,by show L'.length<_;omega⟩⟩;have TT:=T.app (T'.app (tI .u8 (k7:Int)));have T5:TU W p (c5 k0 k1 k2 k3 k4) _ [] []:=tA (tI .u8 (k0:Int)) (tA (tI .u8 (k1:Int)) (tA (tI .u8 (k2:Int)) (tA (tI .u8 (k3:Int)) (tI .u8 (k4:Int)))));rw[List.append_nil,List.append_nil]at TT;exact tA T5 TT
end
end Go.Proofs.YteojfkejdhhhpaaGreatDoor
