/- An evaluator of the program, and contracts over it: EcTl to EcTl. -/
import Derived.Test.YtcomlfdjmehhbaaGreatDoorProg
import Derived.ProofKit
import Derived.LaidMore
import Derived.OpenShut
import Derived.Stop.Joined
import Derived.Deep.Slices
import Derived.Deep.Strs
import Derived.Carry
import Derived.SizedLaws
import Derived.Lib.SmallJoins
import Derived.Test.YtcomlfdjmehhbaaGreatDoorP14
set_option linter.unusedSimpArgs false
set_option linter.unusedVariables false
set_option linter.constructorNameAsVariable false
set_option linter.unnecessarySimpa false
namespace Go.Proofs.YtcomlfdjmehhbaaGreatDoor
open Go.ChangeShapes Go.WideShapes Go.ChangeAt Go.WideMaps Go.WideElems Go.RowKit Go.Deep
open Go.Ev (Tell HasR V ARecs)
open Go.Ev.Lay
theorem c24:Tryz.prog.cellsOf 24=7:=by kernel_rfl
theorem c29:Tryz.prog.cellsOf 29=5:=by kernel_rfl
theorem c36:Tryz.prog.cellsOf 36=9:=by kernel_rfl
theorem c34:Tryz.prog.cellsOf 34=6:=by kernel_rfl
theorem yP:Tryz.prog.cellsOf 204=3:=by kernel_rfl
theorem c79:Tryz.prog.cellsOf 79=5:=by kernel_rfl
theorem yQ:Tryz.prog.cellsOf 114=4:=by kernel_rfl
theorem c85:Tryz.prog.cellsOf 85=2:=by kernel_rfl
theorem c9:Tryz.prog.cellsOf 9=1:=by kernel_rfl
theorem c5:Tryz.prog.cellsOf 5=1:=by kernel_rfl
theorem c2:Tryz.prog.cellsOf 2=1:=by kernel_rfl
theorem c3:Tryz.prog.cellsOf 3=1:=by kernel_rfl
theorem c4:Tryz.prog.cellsOf 4=1:=by kernel_rfl
theorem c25:Tryz.prog.cellsOf 25=1:=by kernel_rfl
theorem c22:Tryz.prog.cellsOf 22=1:=by kernel_rfl
theorem c31:Tryz.prog.cellsOf 31=1:=by kernel_rfl
theorem c32:Tryz.prog.cellsOf 32=1:=by kernel_rfl
theorem c26:Tryz.prog.cellsOf 26=1:=by kernel_rfl
theorem c27:Tryz.prog.cellsOf 27=1:=by kernel_rfl
theorem c76:Tryz.prog.cellsOf 76=1:=by kernel_rfl
theorem zL:Tryz.prog.cellsOf 112=1:=by kernel_rfl
theorem b36:Tryz.prog.bytesOf 36=128:=by kernel_rfl
theorem b34:Tryz.prog.bytesOf 34=104:=by kernel_rfl
theorem zM:Tryz.prog.bytesOf 204=40:=by kernel_rfl
theorem b79:Tryz.prog.bytesOf 79=56:=by kernel_rfl
theorem zP:Tryz.prog.bytesOf 114=56:=by kernel_rfl
theorem b85:Tryz.prog.bytesOf 85=16:=by kernel_rfl
theorem b9:Tryz.prog.bytesOf 9=16:=by kernel_rfl
theorem uF(a:Addr)(x j:Nat):(a.add x).add j=a.add (x+j):=by
  unfold Addr.add;by_cases c:x=0
  ·subst c;simp
  ·by_cases d:j=0
   ·subst d;simp
   ·simp[c,d,Nat.add_assoc]
theorem uE(b off j:Nat):(⟨b,off,none⟩:Addr).add j=⟨b,off+j,none⟩:=by
  unfold Addr.add;by_cases c:j=0
  ·subst c;simp
  ·simp[c]
theorem jL{β:Type}{k:Nat}(kp:0<k):∀(ys:List (List β)),(∀y∈ys,y.length=k)→∀(j:Nat)(x:β),ys.flatten[j]? =some x→∃y,ys[j/k]? =some y∧y[j%k]? =some x
  |[],_,j,x,h=>by simp at h
  |y::ys,hl,j,x,h=>by
    have ly:=hl y (by simp);rw[List.flatten_cons]at h;by_cases c:j<k
    ·rw[List.getElem?_append_left (by omega)]at h;exact⟨y,by rw[Nat.div_eq_of_lt c];rfl,by rw[Nat.mod_eq_of_lt c];exact h⟩
    ·rw[List.getElem?_append_right (by omega),ly]at h;obtain⟨z,h1,h2⟩:=jL kp ys (fun y m=>hl y (by simp[m])) (j-k) x h;refine⟨z,?_,?_⟩
     ·rw[show j=(j-k)+k by omega,Nat.add_div_right _ kp];simpa using h1
     ·rw[show j=(j-k)+k by omega,Nat.add_mod_right];exact h2
section
variable {H : Type} {enc : TypeId × Value → H} {W : World}
theorem xY{P:Program}{e:TypeId}:∀{ds:List (DataW H)}{d:DataW H},d∈ds→∀w∈d.weights P e,w∈DataW.weightsAll P e ds
  |_::_,_,m,w,hw=>by
    simp only[DataW.weightsAll,List.mem_append];rcases List.mem_cons.1 m with rfl|m
    ·exact .inl hw
    ·exact .inr (xY m w hw)
theorem i6{α:Type}{k bs:Nat}{f:α→List V}{Φ:Go.Ev.Heap→α→Prop}{Q:α→Prop}{tS tE:TypeId}{n p:Nat}{x:Value}{y:DataW H×List MemPlace}(ht:Tryz.prog.underlying tS=some (.slice tE))(ck:Tryz.prog.cellsOf tE=k)(bk:Tryz.prog.bytesOf tE=bs)(kp:0<k)(fl:∀a,(f a).length=k)
    (el:∀n cs (z:DataW H×List MemPlace),SizeOf.sizeOf z.1<SizeOf.sizeOf y.1→DataW.trod enc Tryz.prog W 0 (fun _=>true) true n tE cs=some z→(∀b off,MemPlace.cell b off∈z.2→W.frozen? ⟨b,off,none⟩=false)→(∀w∈z.1.weights Tryz.prog tE,w≤reachBytes)→
      ∀p,∃a Ms Cs,Tell W p (f a) cs Ms Cs∧(∀h,HasR h p Cs→Φ h a)∧Q a)
    (h:DataW.trod enc Tryz.prog W 0 (fun _=>true) true n tS [x]=some y) (hfz:∀b off,MemPlace.cell b off∈y.2→W.frozen? ⟨b,off,none⟩=false) (hw:∀w∈y.1.weights Tryz.prog tS,w≤reachBytes):
    ∃(v:V)(L:List α)(Ms:List (Option Go.Ev.Loc))(Cs:List (List V)),Tell W p [v] [x] Ms Cs∧(∀h,HasR h p Cs→ARecs f k h v L∧∀a∈L,Φ h a)∧(∀a∈L,Q a)∧L.length*bs≤reachBytes∧Go.Ev.aP .lenS [v]=some (.int .i64 (L.length:Nat)):=by
  rcases open_slice ht h with⟨e,_⟩|⟨a,len,cap,m,n',D,Pl,hcs,hb,hle,hmx,hmm,hx,hel⟩
  ·obtain rfl:x=.slice none 0 0:=by simpa using e
   refine⟨.nils,[],[],[],Tell.flat (fun m=>⟨_,[],rfl,rfl,rfl⟩) (fun u hu=>?_),fun h _=>⟨⟨by simp,rfl⟩,by simp⟩,by simp,by simp,rfl⟩;rw[List.mem_singleton.1 hu];exact Go.Ev.VEx.nils
  obtain rfl:x=.slice (some a) len cap:=by simpa using hcs
  have hm:m=cap:=by simpa using hmm
  subst hm;by_cases h0:len=0
  ·subst h0;refine⟨.sliceZ a m,[],[],[],Tell.flat (fun _=>⟨_,[],rfl,rfl,rfl⟩) (fun u hu=>?_),fun h _=>⟨⟨by simp,rfl⟩,by simp⟩,by simp,by simp,rfl⟩;rw[List.mem_singleton.1 hu];exact Go.Ev.VEx.sliceZ _ _
  rw[ck]at hel hx;obtain⟨g,hg⟩:∃g:Nat→List Value,∀i,i<m→W.cells? 0 (a.add (i*k)) k=some (g i)∧DataW.trod enc Tryz.prog W 0 (fun _=>true) true n' tE (g i)=some (D i,Pl i):=by
    refine⟨fun i=>if h:i<m then Classical.choose (hel i h)else[],fun i hi=>?_⟩;simp only[dif_pos hi];exact Classical.choose_spec (hel i hi)
  have hgl:∀i,i<m→(g i).length=k∧∀j,j<k→W.cell? (a.add (i*k+j))=(g i)[j]? :=fun i hi=>by
    obtain⟨_,hl,hc⟩:=World.cells?_some (hg i hi).1;exact⟨hl,fun j hj=>by rw[←uF];exact hc j hj⟩
  have hfD:∀i,i<len→(∀b off,MemPlace.cell b off∈Pl i→W.frozen? ⟨b,off,none⟩=false)∧∀w∈(D i).weights Tryz.prog tE,w≤reachBytes:=fun i hi=>by
    refine⟨fun b off hm=>hfz b off ?_,fun w hm=>hw w ?_⟩
    ·rw[hx];exact List.mem_append.2 (.inr (List.mem_flatMap.2 ⟨i,List.mem_range.2 (by omega),hm⟩))
    ·rw[hx];simp only[DataW.weights,ht,List.mem_cons,List.mem_append];exact .inr (.inl (xY (List.mem_map.2 ⟨i,List.mem_range.2 hi,rfl⟩) w hm))
  obtain⟨L,Ms,Cs,ll,t,ph,q⟩:=Go.Ev.tell_list (W:=W) (f:=f) (Φ:=Φ) (Q:=Q) ((List.range len).map g) (p+1) fun y hy p=>by
    obtain⟨i,hi,rfl⟩:=List.mem_map.1 hy;have hi:=List.mem_range.1 hi;have hD:SizeOf.sizeOf (D i)<SizeOf.sizeOf y.1:=by
      rw[hx];have h1:SizeOf.sizeOf (D i)<SizeOf.sizeOf ((List.range len).map D):=List.sizeOf_lt_of_mem (List.mem_map.2 ⟨i,List.mem_range.2 hi,rfl⟩);simp only[DataW.slice.sizeOf_spec];omega
    exact el _ _ _ hD (hg i (by omega)).2 (hfD i hi).1 (hfD i hi).2 p
  obtain⟨z0,hz0⟩:∃z,(g 0)[0]? =some z:=⟨_,List.getElem?_eq_getElem (by rw[(hgl 0 (by omega)).1];exact kp)⟩;have first:=(hgl 0 (by omega)).2 0 kp
  rw[hz0]at first
  obtain⟨b,off,spot⟩:=a;have hfirst:spot=none∧∃C t fz,W.heap[b]? =some (.cells C t fz):=by
    have:=first
    rw[Nat.zero_mul,Nat.zero_add]at this;have:W.cell? ⟨b,off,spot⟩=some _:=this;unfold World.cell? at this;simp only[]at this;split at this
    ·rename_i C t fz hC;cases spot with
     |none=>exact⟨rfl,C,t,fz,hC⟩
     |some z=>simp at this
    ·cases this
  obtain⟨rfl,C,ty,fz,hC⟩:=hfirst;have cellC:∀j v,W.cell? ((⟨b,off,none⟩:Addr).add j)=some v→C[off+j]? =some v:=by
    intro j v hv;rw[uE]at hv;unfold World.cell? at hv;simp only[hC]at hv;simpa using hv
  have lk:len*k≤m*k:=Nat.mul_le_mul_right _ hle;have lp:0<len*k:=Nat.mul_pos (by omega) kp;have hall:∀j,j<m*k→∀v,(g (j/k))[j%k]? =some v→C[off+j]? =some v:=by
    intro j hj v hv;have:=(hgl (j/k) ((Nat.div_lt_iff_lt_mul kp).2 hj)).2 (j%k) (Nat.mod_lt _ kp);rw[show j/k*k+j%k=j by rw[Nat.mul_comm];exact Nat.div_add_mod j k,hv]at this;exact cellC _ _ this
  have ll':L.length=len:=by simpa using ll
  have lf:(L.flatMap f).length=len*k:=by rw[Go.Ev.flat_len' fl,ll']
  refine⟨_,L,_,_,t.arr (b:=b) (off:=off) (n:=len) (k:=k) (cap:=m) hC ?_ ?_ ?_ lf hle,fun h hr=>⟨?_,ph h hr.tail⟩,q,?_,by rw[ll'];rfl⟩
  ·have hj:(len*k-1)/k<m:=(Nat.div_lt_iff_lt_mul kp).2 (by omega);have hp:=hall (len*k-1) (by omega) _ (List.getElem?_eq_getElem (by rw[(hgl _ hj).1];exact Nat.mod_lt _ kp));have:=(Array.getElem?_eq_some_iff.1 hp).1;omega
  ·intro i hi;have:=hfz b (off+i) (by rw[hx];simp[MemPlace.row];exact .inl (by omega));unfold World.frozen? at this;simp only[hC]at this;simpa using this
  ·intro j u hu;obtain⟨y,h1,h2⟩:=jL kp _ (fun y hy=>by
     obtain⟨i,hi,rfl⟩:=List.mem_map.1 hy;exact(hgl i (by have:=List.mem_range.1 hi;omega)).1) j u hu
   rw[List.getElem?_map]at h1;have hlt:j/k<len:=by
     rcases Nat.lt_or_ge (j/k) len with q|q
     ·exact q
     ·rw[List.getElem?_eq_none (by simpa using q)]at h1;cases h1
   rw[List.getElem?_range hlt]at h1;simp only[Option.map_some,Option.some.injEq]at h1;subst h1;have hj:=(Nat.div_lt_iff_lt_mul kp).1 hlt;exact hall j (by omega) _ h2
  ·refine⟨by rw[ll'];exact lf,ll'.symm,by rw[ll'];exact hle,_,.inr (hr 0 _ rfl),by rw[ll',lf];omega,by rw[List.drop_zero,List.take_of_length_le (by rw[ll',lf];omega)]⟩
  ·have:=hw ((len+(m-len)) *bs) (by rw[hx];simp[DataW.weights,ht,bk]);rw[ll'];exact Nat.le_trans (Nat.mul_le_mul_right _ (by omega)) this
end
theorem yl{α:Type}{l:List α}(h:l.length=2):∃a0 a1,l=[a0,a1]:=by
  match l,h with
  |[a0,a1],_=>exact⟨a0,a1,rfl⟩
theorem yk{α:Type}{l:List α}(h:l.length=3):∃a0 a1 a2,l=[a0,a1,a2]:=by
  match l,h with
  |[a0,a1,a2],_=>exact⟨a0,a1,a2,rfl⟩
theorem xr{α:Type}{l:List α}(h:l.length=4):∃a0 a1 a2 a3,l=[a0,a1,a2,a3]:=by
  match l,h with
  |[a0,a1,a2,a3],_=>exact⟨a0,a1,a2,a3,rfl⟩
theorem vH{α:Type}{l:List α}(h:l.length=5):∃a0 a1 a2 a3 a4,l=[a0,a1,a2,a3,a4]:=by
  match l,h with
  |[a0,a1,a2,a3,a4],_=>exact⟨a0,a1,a2,a3,a4,rfl⟩
theorem yj{α:Type}{l:List α}(h:l.length=6):∃a0 a1 a2 a3 a4 a5,l=[a0,a1,a2,a3,a4,a5]:=by
  match l,h with
  |[a0,a1,a2,a3,a4,a5],_=>exact⟨a0,a1,a2,a3,a4,a5,rfl⟩
theorem yi{α:Type}{l:List α}(h:l.length=7):∃a0 a1 a2 a3 a4 a5 a6,l=[a0,a1,a2,a3,a4,a5,a6]:=by
  match l,h with
  |[a0,a1,a2,a3,a4,a5,a6],_=>exact⟨a0,a1,a2,a3,a4,a5,a6,rfl⟩
theorem zA{α:Type}{l:List α}(h:l.length=9):∃a0 a1 a2 a3 a4 a5 a6 a7 a8,l=[a0,a1,a2,a3,a4,a5,a6,a7,a8]:=by
  match l,h with
  |[a0,a1,a2,a3,a4,a5,a6,a7,a8],_=>exact⟨a0,a1,a2,a3,a4,a5,a6,a7,a8,rfl⟩
section
variable {H : Type} {enc : TypeId × Value → H} {W : World}
theorem elT{n:Nat}{cs:List Value}{y:DataW H×List MemPlace}(h:DataW.trod enc Tryz.prog W 0 (fun _=>true) true n 9 cs=some y):∃t:List UInt8,cs=[.string ⟨t.toArray⟩]:=by
  obtain⟨s,rfl,rfl,_⟩:=DataW.trod_string Tryz.underlying9 h;exact⟨s.data.toList,by simp⟩
theorem elB{n:Nat}{cs:List Value}{y:DataW H×List MemPlace}(h:DataW.trod enc Tryz.prog W 0 (fun _=>true) true n 5 cs=some y):∃k:Nat,k<256∧cs=[.int .u8 (k:Int)]:=by
  obtain⟨k0,e0,_,w0⟩:=DataW.trod_int Tryz.underlying5 h;have b0:=bounds_u8 w0;obtain⟨kk,rfl⟩:∃n:Nat,k0=n:=⟨k0.toNat,by omega⟩;exact⟨kk,by omega,e0⟩
theorem elU{n:Nat}{cs:List Value}{y:DataW H×List MemPlace}(h:DataW.trod enc Tryz.prog W 0 (fun _=>true) true n 25 cs=some y):∃k:Int,cs=[.int .u64 k]:=by
  obtain⟨k0,e0,_⟩:=DataW.trod_int Tryz.underlying25 h;exact⟨k0,e0⟩
theorem elZ{n:Nat}{cs:List Value}{y:DataW H×List MemPlace}(h:DataW.trod enc Tryz.prog W 0 (fun _=>true) true n 2 cs=some y):∃k:Int,cs=[.int .i64 k]:=by
  obtain⟨k0,e0,_⟩:=DataW.trod_int Tryz.underlying2 h;exact⟨k0,e0⟩
theorem pO{n:Nat}{cs:List Value}{y:DataW H×List MemPlace}(h:DataW.trod enc Tryz.prog W 0 (fun _=>true) true n 3 cs=some y):∃k:Int,cs=[.int .i64 k]:=by
  obtain⟨k0,e0,_⟩:=DataW.trod_int Tryz.underlying3 h;exact⟨k0,e0⟩
theorem elL{n:Nat}{cs:List Value}{y:DataW H×List MemPlace}(h:DataW.trod enc Tryz.prog W 0 (fun _=>true) true n 4 cs=some y):∃b:Bool,cs=[.bool b]:=by
  obtain⟨b,e,_⟩:=DataW.trod_bool Tryz.underlying4 h;exact⟨b,e⟩
theorem u7(b:Bool):Go.Ev.VEx (.bool b):=fun m x x' h h'=>by simp only[Go.Ev.VRel]at h h';rw[h,h']
theorem tI{p:Nat}(k:IntKind)(n:Int):Tell W p [.int k n] [.int k n] [] []:=Tell.flat (fun m=>⟨_,_,rfl,rfl,rfl⟩) (fun u hu=>by rw[List.mem_singleton.1 hu];exact Go.Ev.VEx.int _ _)
theorem tS{p:Nat}(s:List UInt8):Tell W p [.str s] [.string ⟨s.toArray⟩] [] []:=Tell.flat (fun m=>⟨_,_,rfl,rfl,rfl⟩) (fun u hu=>by rw[List.mem_singleton.1 hu];exact Go.Ev.VEx.str _)
theorem tB{p:Nat}(b:Bool):Tell W p [.bool b] [.bool b] [] []:=Tell.flat (fun m=>⟨_,_,rfl,rfl,rfl⟩) (fun u hu=>by rw[List.mem_singleton.1 hu];exact u7 _)
theorem tA{p:Nat}{vs vs':List V}{xs xs':List Value}{Ms:List (Option Go.Ev.Loc)}{Cs:List (List V)}(s:Tell W p vs xs [] [])(t:Tell W p vs' xs' Ms Cs):Tell W p (vs++vs') (xs++xs') Ms Cs:=s.app t
theorem tC{p:Nat}{vs vs':List V}{xs xs':List Value}{Ms:List (Option Go.Ev.Loc)}{Cs:List (List V)}(t:Tell W p vs' xs' Ms Cs)(s:Tell W (p+Ms.length) vs xs [] []):Tell W p (vs'++vs) (xs'++xs) Ms Cs:=by
  have:=t.app s;rwa[List.append_nil,List.append_nil]at this
theorem zG(n:Nat)(cs:List Value)(y:DataW H×List MemPlace)(h:DataW.trod enc Tryz.prog W 0 (fun _=>true) true n 204 cs=some y)(p:Nat):
    ∃(a:Slo)(Ms:List (Option Go.Ev.Loc))(Cs:List (List V)),Tell W p (my a) cs Ms Cs∧(∀h,HasR h p Cs→(fun(_:Go.Ev.Heap)(_:Slo)=>True) h a)∧(fun _:Slo=>True) a:=by
  obtain⟨xs,n1,_,rfl,hl,hlen,hf⟩:=DataW.trod_struct Tryz.underlying204 h;rw[yP]at hl;obtain⟨v0,v1,v2,rfl⟩:=yk hl;obtain⟨y0,y1,y2,rfl⟩:=yk hlen;have h0:DataW.trod enc Tryz.prog W 0 (fun _=>true) true n1 9 (([v0,v1,v2].drop 0).take (Tryz.prog.cellsOf 9))=some y0:=hf 0 _ rfl;rw[c9]at h0;have h0:DataW.trod enc Tryz.prog W 0 (fun _=>true) true n1 9 [v0]=some y0:=h0;have h1:DataW.trod enc Tryz.prog W 0 (fun _=>true) true n1 5 (([v0,v1,v2].drop 1).take (Tryz.prog.cellsOf 5))=some y1:=hf 1 _ rfl;rw[c5]at h1;have h1:DataW.trod enc Tryz.prog W 0 (fun _=>true) true n1 5 [v1]=some y1:=h1;have h2:DataW.trod enc Tryz.prog W 0 (fun _=>true) true n1 9 (([v0,v1,v2].drop 2).take (Tryz.prog.cellsOf 9))=some y2:=hf 2 _ rfl;rw[c9]at h2;have h2:DataW.trod enc Tryz.prog W 0 (fun _=>true) true n1 9 [v2]=some y2:=h2;obtain⟨s0,e0⟩:=elT h0;obtain⟨k,hk,e1⟩:=elB h1;obtain⟨s2,e2⟩:=elT h2;cases e0;cases e1;cases e2;exact⟨(s0,k,s2),[],[],tA (tS s0) (tA (tI .u8 (k:Int)) (tS s2)),fun _ _=>trivial,trivial⟩
end
structure Pt where
  k:Nat
  tg:Str
  ky:Str
  sl:List Slo
  tx:Str
  vs:V
  vp:V
  sub:PT
def Pt.cells(a:Pt):List V:=[.int .u8 (a.k:Int),.str a.tg,.str a.ky,a.vs,.str a.tx,a.vp]
def Pt.pt(a:Pt)(t:PT):PT:=.cons a.k a.tg a.ky a.sl a.tx a.vs a.vp a.sub t
def kI:List Pt→PT
  |[]=>.nil
  |a::l=>a.pt (kI l)
theorem iZ:∀L:List Pt,(kI L).cells=L.flatMap Pt.cells
  |[]=>rfl
  |a::l=>by simp only[kI,Pt.pt,PT.cells,iZ l,List.flatMap_cons,Pt.cells]
theorem iY:∀L:List Pt,(kI L).len=L.length
  |[]=>rfl
  |a::l=>by simp only[kI,Pt.pt,PT.len,iY l,List.length_cons]
theorem qk{h:Go.Ev.Heap}:∀L:List Pt,(∀a∈L,PH h (a.pt .nil))→PH h (kI L)
  |[],_=>trivial
  |a::l,hL=>by
    obtain⟨x1,x2,x3,x4,x5,x6,_⟩:=hL a (by simp);exact⟨x1,x2,x3,x4,x5,x6,qk l fun b m=>hL b (by simp[m])⟩
section
variable {H : Type} {enc : TypeId × Value → H} {W : World}
theorem elP:∀(s n:Nat)(cs:List Value)(y:DataW H×List MemPlace),SizeOf.sizeOf y.1<s→DataW.trod enc Tryz.prog W 0 (fun _=>true) true n 34 cs=some y→(∀b off,MemPlace.cell b off∈y.2→W.frozen? ⟨b,off,none⟩=false)→(∀w∈y.1.weights Tryz.prog 34,w≤reachBytes)→∀p:Nat,
    ∃(a:Pt)(Ms:List (Option Go.Ev.Loc))(Cs:List (List V)),Tell W p a.cells cs Ms Cs∧(∀h,HasR h p Cs→(fun h (a:Pt)=>PH h (a.pt .nil)) h a)∧(fun _:Pt=>True) a
  |0,_,_,_,hs,_,_,_,_=>absurd hs (Nat.not_lt_zero _)
  |s+1,n,cs,y,hs,h,hfz,hw,p=>by
    obtain⟨xs,n1,_,rfl,hl,hlen,hf⟩:=DataW.trod_struct Tryz.underlying34 h;rw[c34]at hl;obtain⟨v0,v1,v2,v3,v4,v5,rfl⟩:=yj hl;obtain⟨y0,y1,y2,y3,y4,y5,rfl⟩:=yj hlen;have h0:DataW.trod enc Tryz.prog W 0 (fun _=>true) true n1 5 (([v0,v1,v2,v3,v4,v5].drop 0).take (Tryz.prog.cellsOf 5))=some y0:=hf 0 _ rfl;rw[c5]at h0;have h0:DataW.trod enc Tryz.prog W 0 (fun _=>true) true n1 5 [v0]=some y0:=h0;have h1:DataW.trod enc Tryz.prog W 0 (fun _=>true) true n1 9 (([v0,v1,v2,v3,v4,v5].drop 1).take (Tryz.prog.cellsOf 9))=some y1:=hf 1 _ rfl;rw[c9]at h1;have h1:DataW.trod enc Tryz.prog W 0 (fun _=>true) true n1 9 [v1]=some y1:=h1;have h2:DataW.trod enc Tryz.prog W 0 (fun _=>true) true n1 9 (([v0,v1,v2,v3,v4,v5].drop 2).take (Tryz.prog.cellsOf 9))=some y2:=hf 2 _ rfl;rw[c9]at h2;have h2:DataW.trod enc Tryz.prog W 0 (fun _=>true) true n1 9 [v2]=some y2:=h2;have h3:DataW.trod enc Tryz.prog W 0 (fun _=>true) true n1 31 (([v0,v1,v2,v3,v4,v5].drop 3).take (Tryz.prog.cellsOf 31))=some y3:=hf 3 _ rfl;rw[c31]at h3;have h3:DataW.trod enc Tryz.prog W 0 (fun _=>true) true n1 31 [v3]=some y3:=h3;have h4:DataW.trod enc Tryz.prog W 0 (fun _=>true) true n1 9 (([v0,v1,v2,v3,v4,v5].drop 4).take (Tryz.prog.cellsOf 9))=some y4:=hf 4 _ rfl;rw[c9]at h4;have h4:DataW.trod enc Tryz.prog W 0 (fun _=>true) true n1 9 [v4]=some y4:=h4;have h5:DataW.trod enc Tryz.prog W 0 (fun _=>true) true n1 32 (([v0,v1,v2,v3,v4,v5].drop 5).take (Tryz.prog.cellsOf 32))=some y5:=hf 5 _ rfl;rw[c32]at h5;have h5:DataW.trod enc Tryz.prog W 0 (fun _=>true) true n1 32 [v5]=some y5:=h5;have sz0:SizeOf.sizeOf y0.1<SizeOf.sizeOf (DataW.agg ([y0,y1,y2,y3,y4,y5].map (·.1))):=by
      have:=List.sizeOf_lt_of_mem (show y0.1∈[y0,y1,y2,y3,y4,y5].map (·.1) by simp);simp only[DataW.agg.sizeOf_spec];omega
    have sz1:SizeOf.sizeOf y1.1<SizeOf.sizeOf (DataW.agg ([y0,y1,y2,y3,y4,y5].map (·.1))):=by
      have:=List.sizeOf_lt_of_mem (show y1.1∈[y0,y1,y2,y3,y4,y5].map (·.1) by simp);simp only[DataW.agg.sizeOf_spec];omega
    have sz2:SizeOf.sizeOf y2.1<SizeOf.sizeOf (DataW.agg ([y0,y1,y2,y3,y4,y5].map (·.1))):=by
      have:=List.sizeOf_lt_of_mem (show y2.1∈[y0,y1,y2,y3,y4,y5].map (·.1) by simp);simp only[DataW.agg.sizeOf_spec];omega
    have sz3:SizeOf.sizeOf y3.1<SizeOf.sizeOf (DataW.agg ([y0,y1,y2,y3,y4,y5].map (·.1))):=by
      have:=List.sizeOf_lt_of_mem (show y3.1∈[y0,y1,y2,y3,y4,y5].map (·.1) by simp);simp only[DataW.agg.sizeOf_spec];omega
    have sz4:SizeOf.sizeOf y4.1<SizeOf.sizeOf (DataW.agg ([y0,y1,y2,y3,y4,y5].map (·.1))):=by
      have:=List.sizeOf_lt_of_mem (show y4.1∈[y0,y1,y2,y3,y4,y5].map (·.1) by simp);simp only[DataW.agg.sizeOf_spec];omega
    have sz5:SizeOf.sizeOf y5.1<SizeOf.sizeOf (DataW.agg ([y0,y1,y2,y3,y4,y5].map (·.1))):=by
      have:=List.sizeOf_lt_of_mem (show y5.1∈[y0,y1,y2,y3,y4,y5].map (·.1) by simp);simp only[DataW.agg.sizeOf_spec];omega
    have hs':SizeOf.sizeOf (DataW.agg ([y0,y1,y2,y3,y4,y5].map (·.1)))<s+1:=hs;obtain⟨k,hk,e0⟩:=elB h0;obtain⟨s1,e1⟩:=elT h1;obtain⟨s2,e2⟩:=elT h2;obtain⟨s4,e4⟩:=elT h4;obtain⟨vs,L,Ms,Cs,T,r,_,hL,hNL⟩:=i6 (p:=p) (f:=my) Tryz.underlying31 yP zM (by omega) gm (fun n cs z _ g _ _ p=>zG n cs z g p) h3 (fun b off m=>hfz b off (by simp[m])) (fun w m=>hw w (by
      simp only[DataW.weights,Tryz.underlying34,DataW.weightsEach,List.map_cons,List.mem_append];simp[m]))
    obtain⟨vp,P,Ms',Cs',T',r',_,hP,hNP⟩:=i6 (p:=p+Ms.length) (f:=Pt.cells) Tryz.underlying32 c34 b34 (by omega) (fun _=>rfl) (fun n cs z hz g f w p=>elP s n cs z (by omega) g f w p) h5 (fun b off m=>hfz b off (by simp[m])) (fun w m=>hw w (by
      simp only[DataW.weights,Tryz.underlying34,DataW.weightsEach,List.map_cons,List.mem_append];simp[m]))
    cases e0;cases e1;cases e2;cases e4;have rb:=reachBytes_lt;refine⟨⟨k,s1,s2,L,s4,vs,vp,kI P⟩,_,_,tA (tI .u8 (k:Int)) (tA (tS s1) (tA (tS s2) (T.app (tA (tS s4) T')))),fun h hr=>?_,trivial⟩;have q1:=r h hr.left;have q2:=r' h (by rw[T.l];exact hr.right);refine⟨hk,q1.1,by show L.length≤_;omega,?_,by show(kI P).len≤_;rw[iY];omega,qk P q2.2,trivial⟩;show Go.Ev.ASl h 6 vp (kI P).len (kI P).cells;rw[iY,iZ];exact q2.1
def Knd.of(a:Pt)(b:Int)(s:Bool)(q:Int):Knd:=⟨a.k,a.tg,a.ky,a.sl,a.tx,a.vs,a.vp,a.sub,b,s,q⟩
theorem elK(n:Nat)(cs:List Value)(y:DataW H×List MemPlace)(h:DataW.trod enc Tryz.prog W 0 (fun _=>true) true n 36 cs=some y)(hfz:∀b off,MemPlace.cell b off∈y.2→W.frozen? ⟨b,off,none⟩=false)(hw:∀w∈y.1.weights Tryz.prog 36,w≤reachBytes)(p:Nat):
    ∃(a:Knd)(Ms:List (Option Go.Ev.Loc))(Cs:List (List V)),Tell W p a.cells cs Ms Cs∧(∀h,HasR h p Cs→(fun h (a:Knd)=>KndH h a) h a)∧(fun _:Knd=>True) a:=by
  obtain⟨xs,n1,_,rfl,hl,hlen,hf⟩:=DataW.trod_struct Tryz.underlying36 h;rw[c36]at hl;obtain⟨v0,v1,v2,v3,v4,v5,v6,v7,v8,rfl⟩:=zA hl;obtain⟨y0,y1,y2,y3,rfl⟩:=xr hlen;have h0:DataW.trod enc Tryz.prog W 0 (fun _=>true) true n1 34 (([v0,v1,v2,v3,v4,v5,v6,v7,v8].drop 0).take (Tryz.prog.cellsOf 34))=some y0:=hf 0 _ rfl;rw[c34]at h0;have h0:DataW.trod enc Tryz.prog W 0 (fun _=>true) true n1 34 [v0,v1,v2,v3,v4,v5]=some y0:=h0;have h1:DataW.trod enc Tryz.prog W 0 (fun _=>true) true n1 2 (([v0,v1,v2,v3,v4,v5,v6,v7,v8].drop 6).take (Tryz.prog.cellsOf 2))=some y1:=hf 1 _ rfl;rw[c2]at h1;have h1:DataW.trod enc Tryz.prog W 0 (fun _=>true) true n1 2 [v6]=some y1:=h1;have h2:DataW.trod enc Tryz.prog W 0 (fun _=>true) true n1 4 (([v0,v1,v2,v3,v4,v5,v6,v7,v8].drop 7).take (Tryz.prog.cellsOf 4))=some y2:=hf 2 _ rfl;rw[c4]at h2;have h2:DataW.trod enc Tryz.prog W 0 (fun _=>true) true n1 4 [v7]=some y2:=h2;have h3:DataW.trod enc Tryz.prog W 0 (fun _=>true) true n1 3 (([v0,v1,v2,v3,v4,v5,v6,v7,v8].drop 8).take (Tryz.prog.cellsOf 3))=some y3:=hf 3 _ rfl;rw[c3]at h3;have h3:DataW.trod enc Tryz.prog W 0 (fun _=>true) true n1 3 [v8]=some y3:=h3;obtain⟨a,Ms,Cs,T,r,_⟩:=elP _ n1 _ y0 (Nat.lt_succ_self _) h0 (fun b off m=>hfz b off (by simp[m])) (fun w m=>hw w (by
    simp only[DataW.weights,Tryz.underlying36,DataW.weightsEach,List.map_cons,List.mem_append];simp[m])) p
  obtain⟨b,e1⟩:=elZ h1;obtain⟨l,e2⟩:=elL h2;obtain⟨q,e3⟩:=pO h3;cases e1;cases e2;cases e3;exact⟨Knd.of a b l q,Ms,Cs,tC T (tA (tI .i64 b) (tA (tB l) (tI .i64 q))),fun h hr=>r h hr,trivial⟩
theorem x8{n p:Nat}{cs:List Value}{y:DataW H×List MemPlace}(h:DataW.trod enc Tryz.prog W 0 (fun _=>true) true n 24 cs=some y)(hfz:∀b off,MemPlace.cell b off∈y.2→W.frozen? ⟨b,off,none⟩=false)(hw:∀w∈y.1.weights Tryz.prog 24,w≤reachBytes):
    ∃(c:Cfg)(Ms:List (Option Go.Ev.Loc))(Cs:List (List V)),cs.length=7∧Tell W p c.cells cs Ms Cs∧(∀h,HasR h p Cs→CfH h c)∧c.flaw<256:=by
  obtain⟨xs,n1,_,rfl,hl,hlen,hf⟩:=DataW.trod_struct Tryz.underlying24 h;rw[c24]at hl;obtain⟨v0,v1,v2,v3,v4,v5,v6,rfl⟩:=yi hl;obtain⟨y0,y1,y2,y3,y4,y5,y6,rfl⟩:=yi hlen;have h0:DataW.trod enc Tryz.prog W 0 (fun _=>true) true n1 2 (([v0,v1,v2,v3,v4,v5,v6].drop 0).take (Tryz.prog.cellsOf 2))=some y0:=hf 0 _ rfl;rw[c2]at h0;have h0:DataW.trod enc Tryz.prog W 0 (fun _=>true) true n1 2 [v0]=some y0:=h0;have h1:DataW.trod enc Tryz.prog W 0 (fun _=>true) true n1 3 (([v0,v1,v2,v3,v4,v5,v6].drop 1).take (Tryz.prog.cellsOf 3))=some y1:=hf 1 _ rfl;rw[c3]at h1;have h1:DataW.trod enc Tryz.prog W 0 (fun _=>true) true n1 3 [v1]=some y1:=h1;have h2:DataW.trod enc Tryz.prog W 0 (fun _=>true) true n1 2 (([v0,v1,v2,v3,v4,v5,v6].drop 2).take (Tryz.prog.cellsOf 2))=some y2:=hf 2 _ rfl;rw[c2]at h2;have h2:DataW.trod enc Tryz.prog W 0 (fun _=>true) true n1 2 [v2]=some y2:=h2;have h3:DataW.trod enc Tryz.prog W 0 (fun _=>true) true n1 22 (([v0,v1,v2,v3,v4,v5,v6].drop 3).take (Tryz.prog.cellsOf 22))=some y3:=hf 3 _ rfl;rw[c22]at h3;have h3:DataW.trod enc Tryz.prog W 0 (fun _=>true) true n1 22 [v3]=some y3:=h3;have h4:DataW.trod enc Tryz.prog W 0 (fun _=>true) true n1 3 (([v0,v1,v2,v3,v4,v5,v6].drop 4).take (Tryz.prog.cellsOf 3))=some y4:=hf 4 _ rfl;rw[c3]at h4;have h4:DataW.trod enc Tryz.prog W 0 (fun _=>true) true n1 3 [v4]=some y4:=h4;have h5:DataW.trod enc Tryz.prog W 0 (fun _=>true) true n1 3 (([v0,v1,v2,v3,v4,v5,v6].drop 5).take (Tryz.prog.cellsOf 3))=some y5:=hf 5 _ rfl;rw[c3]at h5;have h5:DataW.trod enc Tryz.prog W 0 (fun _=>true) true n1 3 [v5]=some y5:=h5;have h6:DataW.trod enc Tryz.prog W 0 (fun _=>true) true n1 5 (([v0,v1,v2,v3,v4,v5,v6].drop 6).take (Tryz.prog.cellsOf 5))=some y6:=hf 6 _ rfl;rw[c5]at h6;have h6:DataW.trod enc Tryz.prog W 0 (fun _=>true) true n1 5 [v6]=some y6:=h6;obtain⟨a0,e0⟩:=elZ h0;obtain⟨a1,e1⟩:=pO h1;obtain⟨a2,e2⟩:=elZ h2;obtain⟨a4,e4⟩:=pO h4;obtain⟨a5,e5⟩:=pO h5;obtain⟨k,hk,e6⟩:=elB h6;obtain⟨v,L,Ms,Cs,T,r,_,hL,hNL⟩:=i6 (p:=p) (f:=Knd.cells) Tryz.underlying22 c36 b36 (by omega) bQ (fun n cs z _ g f w p=>elK n cs z g f w p) h3 (fun b off m=>hfz b off (by simp[m])) (fun w m=>hw w (by
    simp only[DataW.weights,Tryz.underlying24,DataW.weightsEach,List.map_cons,List.mem_append];simp[m]))
  cases e0;cases e1;cases e2;cases e4;cases e5;cases e6;have rb:=reachBytes_lt;refine⟨⟨a0,a1,a2,v,L,a4,a5,k⟩,Ms,Cs,rfl,tA (tI .i64 a0) (tA (tI .i64 a1) (tA (tI .i64 a2) (tC T (tA (tI .i64 a4) (tA (tI .i64 a5) (tI .u8 (k:Int))))))),fun h hr=>⟨(r h hr).1,(r h hr).2,by show L.length≤_;omega⟩,hk⟩
theorem elM(n:Nat)(cs:List Value)(y:DataW H×List MemPlace)(h:DataW.trod enc Tryz.prog W 0 (fun _=>true) true n 9 cs=some y)(p:Nat):
    ∃(a:{l:List V//l.length=1})(Ms:List (Option Go.Ev.Loc))(Cs:List (List V)),Tell W p a.1 cs Ms Cs∧(∀h,HasR h p Cs→(fun(_:Go.Ev.Heap)(_:{l:List V//l.length=1})=>True) h a)∧(fun _:{l:List V//l.length=1}=>True) a:=by
  obtain⟨s,e⟩:=elT h;cases e;exact⟨⟨_,rfl⟩,[],[],tS s,fun _ _=>trivial,trivial⟩
theorem elI(n:Nat)(cs:List Value)(y:DataW H×List MemPlace)(h:DataW.trod enc Tryz.prog W 0 (fun _=>true) true n 114 cs=some y)(hfz:∀b off,MemPlace.cell b off∈y.2→W.frozen? ⟨b,off,none⟩=false)(hw:∀w∈y.1.weights Tryz.prog 114,w≤reachBytes)(p:Nat):
    ∃(a:{l:List V//l.length=4})(Ms:List (Option Go.Ev.Loc))(Cs:List (List V)),Tell W p a.1 cs Ms Cs∧(∀h,HasR h p Cs→(fun(_:Go.Ev.Heap)(_:{l:List V//l.length=4})=>True) h a)∧(fun _:{l:List V//l.length=4}=>True) a:=by
  obtain⟨xs,n1,_,rfl,hl,hlen,hf⟩:=DataW.trod_struct Tryz.underlying114 h;rw[yQ]at hl;obtain⟨v0,v1,v2,v3,rfl⟩:=xr hl;obtain⟨y0,y1,y2,y3,rfl⟩:=xr hlen;have h0:DataW.trod enc Tryz.prog W 0 (fun _=>true) true n1 25 (([v0,v1,v2,v3].drop 0).take (Tryz.prog.cellsOf 25))=some y0:=hf 0 _ rfl;rw[c25]at h0;have h0:DataW.trod enc Tryz.prog W 0 (fun _=>true) true n1 25 [v0]=some y0:=h0;have h1:DataW.trod enc Tryz.prog W 0 (fun _=>true) true n1 5 (([v0,v1,v2,v3].drop 1).take (Tryz.prog.cellsOf 5))=some y1:=hf 1 _ rfl;rw[c5]at h1;have h1:DataW.trod enc Tryz.prog W 0 (fun _=>true) true n1 5 [v1]=some y1:=h1;have h2:DataW.trod enc Tryz.prog W 0 (fun _=>true) true n1 9 (([v0,v1,v2,v3].drop 2).take (Tryz.prog.cellsOf 9))=some y2:=hf 2 _ rfl;rw[c9]at h2;have h2:DataW.trod enc Tryz.prog W 0 (fun _=>true) true n1 9 [v2]=some y2:=h2;have h3:DataW.trod enc Tryz.prog W 0 (fun _=>true) true n1 112 (([v0,v1,v2,v3].drop 3).take (Tryz.prog.cellsOf 112))=some y3:=hf 3 _ rfl;rw[zL]at h3;have h3:DataW.trod enc Tryz.prog W 0 (fun _=>true) true n1 112 [v3]=some y3:=h3;obtain⟨a0,e0⟩:=elU h0;obtain⟨a1,_,e1⟩:=elB h1;obtain⟨a2,e2⟩:=elT h2;obtain⟨v,L,Ms,Cs,T,_⟩:=i6 (p:=p) (f:=fun a:{l:List V//l.length=1}=>a.1) Tryz.underlying112 c9 b9 (by omega) (fun a=>a.2) (fun n cs z _ g _ _ p=>elM n cs z g p) h3 (fun b off m=>hfz b off (by simp[m])) (fun w m=>hw w (by
    simp only[DataW.weights,Tryz.underlying114,DataW.weightsEach,List.map_cons,List.mem_append];simp[m]))
  cases e0;cases e1;cases e2;exact⟨⟨_,rfl⟩,Ms,Cs,tA (tI .u64 a0) (tA (tI .u8 (a1:Int)) (tA (tS a2) T)),fun _ _=>trivial,trivial⟩
theorem elN(n:Nat)(cs:List Value)(y:DataW H×List MemPlace)(h:DataW.trod enc Tryz.prog W 0 (fun _=>true) true n 79 cs=some y)(hfz:∀b off,MemPlace.cell b off∈y.2→W.frozen? ⟨b,off,none⟩=false)(hw:∀w∈y.1.weights Tryz.prog 79,w≤reachBytes)(p:Nat):
    ∃(a:{l:List V//l.length=5})(Ms:List (Option Go.Ev.Loc))(Cs:List (List V)),Tell W p a.1 cs Ms Cs∧(∀h,HasR h p Cs→(fun(_:Go.Ev.Heap)(_:{l:List V//l.length=5})=>True) h a)∧(fun _:{l:List V//l.length=5}=>True) a:=by
  obtain⟨xs,n1,_,rfl,hl,hlen,hf⟩:=DataW.trod_struct Tryz.underlying79 h;rw[c79]at hl;obtain⟨v0,v1,v2,v3,v4,rfl⟩:=vH hl;obtain⟨y0,y1,y2,y3,y4,rfl⟩:=vH hlen;have h0:DataW.trod enc Tryz.prog W 0 (fun _=>true) true n1 5 (([v0,v1,v2,v3,v4].drop 0).take (Tryz.prog.cellsOf 5))=some y0:=hf 0 _ rfl;rw[c5]at h0;have h0:DataW.trod enc Tryz.prog W 0 (fun _=>true) true n1 5 [v0]=some y0:=h0;have h1:DataW.trod enc Tryz.prog W 0 (fun _=>true) true n1 3 (([v0,v1,v2,v3,v4].drop 1).take (Tryz.prog.cellsOf 3))=some y1:=hf 1 _ rfl;rw[c3]at h1;have h1:DataW.trod enc Tryz.prog W 0 (fun _=>true) true n1 3 [v1]=some y1:=h1;have h2:DataW.trod enc Tryz.prog W 0 (fun _=>true) true n1 3 (([v0,v1,v2,v3,v4].drop 2).take (Tryz.prog.cellsOf 3))=some y2:=hf 2 _ rfl;rw[c3]at h2;have h2:DataW.trod enc Tryz.prog W 0 (fun _=>true) true n1 3 [v2]=some y2:=h2;have h3:DataW.trod enc Tryz.prog W 0 (fun _=>true) true n1 3 (([v0,v1,v2,v3,v4].drop 3).take (Tryz.prog.cellsOf 3))=some y3:=hf 3 _ rfl;rw[c3]at h3;have h3:DataW.trod enc Tryz.prog W 0 (fun _=>true) true n1 3 [v3]=some y3:=h3;have h4:DataW.trod enc Tryz.prog W 0 (fun _=>true) true n1 76 (([v0,v1,v2,v3,v4].drop 4).take (Tryz.prog.cellsOf 76))=some y4:=hf 4 _ rfl;rw[c76]at h4;have h4:DataW.trod enc Tryz.prog W 0 (fun _=>true) true n1 76 [v4]=some y4:=h4;obtain⟨a0,_,e0⟩:=elB h0;obtain⟨a1,e1⟩:=pO h1;obtain⟨a2,e2⟩:=pO h2;obtain⟨a3,e3⟩:=pO h3;obtain⟨v,L,Ms,Cs,T,_⟩:=i6 (p:=p) (f:=fun a:{l:List V//l.length=4}=>a.1) Tryz.underlying76 yQ zP (by omega) (fun a=>a.2) (fun n cs z _ g f w p=>elI n cs z g f w p) h4 (fun b off m=>hfz b off (by simp[m])) (fun w m=>hw w (by
    simp only[DataW.weights,Tryz.underlying79,DataW.weightsEach,List.map_cons,List.mem_append];simp[m]))
  cases e0;cases e1;cases e2;cases e3;exact⟨⟨_,rfl⟩,Ms,Cs,tA (tI .u8 (a0:Int)) (tA (tI .i64 a1) (tA (tI .i64 a2) (tA (tI .i64 a3) T))),fun _ _=>trivial,trivial⟩
theorem elH(n:Nat)(cs:List Value)(y:DataW H×List MemPlace)(h:DataW.trod enc Tryz.prog W 0 (fun _=>true) true n 85 cs=some y)(hfz:∀b off,MemPlace.cell b off∈y.2→W.frozen? ⟨b,off,none⟩=false)(hw:∀w∈y.1.weights Tryz.prog 85,w≤reachBytes)(p:Nat):
    ∃(a:{l:List V//l.length=2})(Ms:List (Option Go.Ev.Loc))(Cs:List (List V)),Tell W p a.1 cs Ms Cs∧(∀h,HasR h p Cs→(fun(_:Go.Ev.Heap)(_:{l:List V//l.length=2})=>True) h a)∧(fun _:{l:List V//l.length=2}=>True) a:=by
  obtain⟨xs,n1,_,rfl,hl,hlen,hf⟩:=DataW.trod_struct Tryz.underlying85 h;rw[c85]at hl;obtain⟨v0,v1,rfl⟩:=yl hl;obtain⟨y0,y1,rfl⟩:=yl hlen;have h0:DataW.trod enc Tryz.prog W 0 (fun _=>true) true n1 25 (([v0,v1].drop 0).take (Tryz.prog.cellsOf 25))=some y0:=hf 0 _ rfl;rw[c25]at h0;have h0:DataW.trod enc Tryz.prog W 0 (fun _=>true) true n1 25 [v0]=some y0:=h0;have h1:DataW.trod enc Tryz.prog W 0 (fun _=>true) true n1 2 (([v0,v1].drop 1).take (Tryz.prog.cellsOf 2))=some y1:=hf 1 _ rfl;rw[c2]at h1;have h1:DataW.trod enc Tryz.prog W 0 (fun _=>true) true n1 2 [v1]=some y1:=h1;obtain⟨a0,e0⟩:=elU h0;obtain⟨a1,e1⟩:=elZ h1;cases e0;cases e1;exact⟨⟨_,rfl⟩,[],[],tA (tI .u64 a0) (tI .i64 a1),fun _ _=>trivial,trivial⟩
theorem xZ{n p:Nat}{cs:List Value}{y:DataW H×List MemPlace}(h:DataW.trod enc Tryz.prog W 0 (fun _=>true) true n 29 cs=some y)(hfz:∀b off,MemPlace.cell b off∈y.2→W.frozen? ⟨b,off,none⟩=false)(hw:∀w∈y.1.weights Tryz.prog 29,w≤reachBytes):
    ∃(x0 x1 x2 x3 x4:V)(m:Nat)(Ms:List (Option Go.Ev.Loc))(Cs:List (List V)),Tell W p [x0,x1,x2,x3,x4] cs Ms Cs∧Go.Ev.aP .lenS [x3]=some (.int .i64 (m:Int))∧m<9223372036854775808:=by
  obtain⟨xs,n1,_,rfl,hl,hlen,hf⟩:=DataW.trod_struct Tryz.underlying29 h;rw[c29]at hl;obtain⟨v0,v1,v2,v3,v4,rfl⟩:=vH hl;obtain⟨y0,y1,y2,y3,y4,rfl⟩:=vH hlen;have h0:DataW.trod enc Tryz.prog W 0 (fun _=>true) true n1 5 (([v0,v1,v2,v3,v4].drop 0).take (Tryz.prog.cellsOf 5))=some y0:=hf 0 _ rfl;rw[c5]at h0;have h0:DataW.trod enc Tryz.prog W 0 (fun _=>true) true n1 5 [v0]=some y0:=h0;have h1:DataW.trod enc Tryz.prog W 0 (fun _=>true) true n1 2 (([v0,v1,v2,v3,v4].drop 1).take (Tryz.prog.cellsOf 2))=some y1:=hf 1 _ rfl;rw[c2]at h1;have h1:DataW.trod enc Tryz.prog W 0 (fun _=>true) true n1 2 [v1]=some y1:=h1;have h2:DataW.trod enc Tryz.prog W 0 (fun _=>true) true n1 25 (([v0,v1,v2,v3,v4].drop 2).take (Tryz.prog.cellsOf 25))=some y2:=hf 2 _ rfl;rw[c25]at h2;have h2:DataW.trod enc Tryz.prog W 0 (fun _=>true) true n1 25 [v2]=some y2:=h2;have h3:DataW.trod enc Tryz.prog W 0 (fun _=>true) true n1 26 (([v0,v1,v2,v3,v4].drop 3).take (Tryz.prog.cellsOf 26))=some y3:=hf 3 _ rfl;rw[c26]at h3;have h3:DataW.trod enc Tryz.prog W 0 (fun _=>true) true n1 26 [v3]=some y3:=h3;have h4:DataW.trod enc Tryz.prog W 0 (fun _=>true) true n1 27 (([v0,v1,v2,v3,v4].drop 4).take (Tryz.prog.cellsOf 27))=some y4:=hf 4 _ rfl;rw[c27]at h4;have h4:DataW.trod enc Tryz.prog W 0 (fun _=>true) true n1 27 [v4]=some y4:=h4;obtain⟨a0,_,e0⟩:=elB h0;obtain⟨a1,e1⟩:=elZ h1;obtain⟨a2,e2⟩:=elU h2;obtain⟨v',L',Ms',Cs',T',r',_,hL',hN'⟩:=i6 (p:=p) (f:=fun a:{l:List V//l.length=5}=>a.1) Tryz.underlying26 c79 b79 (by omega) (fun a=>a.2) (fun n cs z _ g f w p=>elN n cs z g f w p) h3 (fun b off m=>hfz b off (by simp[m])) (fun w m=>hw w (by
    simp only[DataW.weights,Tryz.underlying29,DataW.weightsEach,List.map_cons,List.mem_append];simp[m]))
  obtain⟨u,K,Mu,Cu,U,_⟩:=i6 (p:=p+Ms'.length) (f:=fun a:{l:List V//l.length=2}=>a.1) Tryz.underlying27 c85 b85 (by omega) (fun a=>a.2) (fun n cs z _ g f w p=>elH n cs z g f w p) h4 (fun b off m=>hfz b off (by simp[m])) (fun w m=>hw w (by
    simp only[DataW.weights,Tryz.underlying29,DataW.weightsEach,List.map_cons,List.mem_append];simp[m]))
  cases e0;cases e1;cases e2;have rb:=reachBytes_lt;refine⟨_,_,_,v',u,L'.length,_,_,tA (tI .u8 (a0:Int)) (tA (tI .i64 a1) (tA (tI .u64 a2) (T'.app U))),hN',by omega⟩
end
end Go.Proofs.YtcomlfdjmehhbaaGreatDoor
