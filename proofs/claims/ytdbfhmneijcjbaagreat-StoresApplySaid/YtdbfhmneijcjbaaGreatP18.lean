/- An evaluator of the program, and contracts over it: MsNr to MsNs. -/
import Derived.SizedLaws
import Derived.Lib.SmallJoins
import Derived.Test.YtdbfhmneijcjbaaGreatP06
import Derived.Test.YtdbfhmneijcjbaaGreatP14
import Derived.Test.YtdbfhmneijcjbaaGreatP17
set_option linter.unusedSimpArgs false
set_option linter.unusedVariables false
set_option linter.constructorNameAsVariable false
set_option linter.unnecessarySimpa false
namespace Go.Proofs.YtdbfhmneijcjbaaGreat
open Go.ChangeShapes Go.WideShapes Go.ChangeAt Go.WideMaps Go.WideElems Go.RowKit Go.Deep
open Go.Ev (Jj uf cX Tell HasR V ARecs)
theorem sJ{β:Type}{k:Nat}(kp:0<k):∀(ys:List (List β)),(∀y∈ys,y.length=k)→∀(j:Nat)(x:β),ys.flatten[j]? =some x→∃y,ys[j/k]? =some y∧y[j%k]? =some x
 |[],_,j,x,h=>by simp at h
 |y::ys,hl,j,x,h=>by have ly:=hl y iS;rw[List.flatten_cons]at h;by_cases c:j<k;rw[List.getElem?_append_left oM]at h;exact⟨y,by rw[Nat.div_eq_of_lt c];rfl,by rw[Nat.mod_eq_of_lt c];exact h⟩;rw[List.getElem?_append_right oM,ly]at h;let⟨z,h1,h2⟩:=sJ kp ys (fun y m=>hl y iX) (j-k) x h;refine⟨z,?_,?_⟩;rw[(oM:j=(j-k)+k),Nat.add_div_right _ kp];simpa using h1;rw[(oM:j=(j-k)+k),Nat.add_mod_right];exact h2
section
variable {H : Type} {enc : TypeId × Value -> H} {W : World}
theorem K5{P:Program}{e:TypeId}:∀{ds:List (DataW H)}{d:DataW H},d∈ds→∀w∈d.weights P e,w∈DataW.weightsAll P e ds
 |_::_,_,m,w,hw=>by simp only[DataW.weightsAll,List.mem_append];obtain rfl|m:=List.mem_cons.1 m;exact .inl hw;exact .inr (K5 m w hw)
theorem xX{α:Type}{k bs:Nat}{f:α→List V}{Φ:Go.Ev.Heap→α→Prop}{Q:α→Prop}{tS tE:TypeId}{n p:Nat}{x:Value}{y:DataW H×List MemPlace}(ht:Tryz.prog.underlying tS=some (.slice tE))(ck:Tryz.prog.cellsOf tE=k)(bk:Tryz.prog.bytesOf tE=bs)(kp:0<k)(fl:∀a,(f a).length=k)
 (el:∀n cs (y:DataW H×List MemPlace),DataW.trod enc Tryz.prog W 0 (fun _=>true) true n tE cs=some y→(∀b off,MemPlace.cell b off∈y.2→W.frozen? ⟨b,off,none⟩=false)→(∀w∈y.1.weights Tryz.prog tE,w≤reachBytes)→
  ∀p,∃a Ms Cs,Tell W p (f a) cs Ms Cs∧(∀h,HasR h p Cs→Φ h a)∧Q a)
 (h:DataW.trod enc Tryz.prog W 0 (fun _=>true) true n tS [x]=some y) (hfz:∀b off,MemPlace.cell b off∈y.2→W.frozen? ⟨b,off,none⟩=false) (hw:∀w∈y.1.weights Tryz.prog tS,w≤reachBytes):
 ∃(v:V)(L:List α)(Ms:List (Option Go.Ev.Loc))(Cs:List (List V)),Tell W p [v] [x] Ms Cs∧(∀h,HasR h p Cs→ARecs f k h v L∧∀a∈L,Φ h a)∧(∀a∈L,Q a)∧L.length*bs≤reachBytes:=by
 obtain⟨e,_⟩|⟨a,len,cap,m,n',D,Pl,hcs,hb,hle,hmx,hmm,hx,hel⟩:=open_slice ht h;obtain rfl:x=.slice none 0 0:=by simpa using e
 refine⟨.nils,[],[],[],Tell.flat (fun m=>⟨_,[],rfl,rfl,rfl⟩) (fun u hu=>?_),fun h _=>⟨⟨iS,rfl⟩,iS⟩,iS,iS⟩;rw[List.mem_singleton.1 hu];exact Go.Ev.VEx.nils;obtain rfl:x=.slice (some a) len cap:=by simpa using hcs
 have hm:m=cap:=by simpa using hmm
 subst hm;by_cases h0:len=0;subst h0;refine⟨.sliceZ a m,[],[],[],Tell.flat (fun _=>⟨_,[],rfl,rfl,rfl⟩) (fun u hu=>?_),fun h _=>⟨⟨iS,rfl⟩,iS⟩,iS,iS⟩;rw[List.mem_singleton.1 hu];exact Go.Ev.VEx.sliceZ _ _;rw[ck]at hel hx;obtain⟨g,hg⟩:∃g:Nat→List Value,∀i,i<m→W.cells? 0 (a.add (i*k)) k=some (g i)∧DataW.trod enc Tryz.prog W 0 (fun _=>true) true n' tE (g i)=some (D i,Pl i):=by refine⟨fun i=>if h:i<m then Classical.choose (hel i h)else[],fun i hi=>?_⟩;simp only[dif_pos hi];exact Classical.choose_spec (hel i hi)
 have hgl:∀i,i<m→(g i).length=k∧∀j,j<k→W.cell? (a.add (i*k+j))=(g i)[j]? :=fun i hi=>by let⟨_,hl,hc⟩:=World.cells?_some (hg i hi).1;exact⟨hl,fun j hj=>by rw[←GB];exact hc j hj⟩
 have hfD:∀i,i<len→(∀b off,MemPlace.cell b off∈Pl i→W.frozen? ⟨b,off,none⟩=false)∧∀w∈(D i).weights Tryz.prog tE,w≤reachBytes:=fun i hi=>by refine⟨fun b off hm=>hfz b off ?_,fun w hm=>hw w ?_⟩;rw[hx];exact List.mem_append.2 (.inr (List.mem_flatMap.2 ⟨i,List.mem_range.2 oM,hm⟩));rw[hx];simp only[DataW.weights,ht,List.mem_cons,List.mem_append];exact .inr (.inl (K5 (List.mem_map.2 ⟨i,List.mem_range.2 hi,rfl⟩) w hm))
 let⟨L,Ms,Cs,ll,t,ph,q⟩:=Go.Ev.tell_list (W:=W) (f:=f) (Φ:=Φ) (Q:=Q) ((List.range len).map g) (p+1) fun y hy p=>by obtain⟨i,hi,rfl⟩:=List.mem_map.1 hy;have hi:=List.mem_range.1 hi;exact el _ _ _ (hg i oM).2 (hfD i hi).1 (hfD i hi).2 p
 obtain⟨z0,hz0⟩:∃z,(g 0)[0]? =some z:=⟨_,List.getElem?_eq_getElem (by rw[(hgl 0 oM).1];exact kp)⟩;have first:=(hgl 0 oM).2 0 kp
 rw[hz0]at first
 let⟨b,off,spot⟩:=a;have hfirst:spot=none∧∃C t fz,W.heap[b]? =some (.cells C t fz):=by
  have:=first
  rw[Nat.zero_mul,Nat.zero_add]at this;have:W.cell? ⟨b,off,spot⟩=some _:=this;unfold World.cell? at this;simp only[]at this;split at this;rename_i C t fz hC;cases spot with
  |none=>exact⟨rfl,C,t,fz,hC⟩
  |some z=>simp at this
  cases this
 obtain⟨rfl,C,ty,fz,hC⟩:=hfirst;have cellC:∀j v,W.cell? ((⟨b,off,none⟩:Addr).add j)=some v→C[off+j]? =some v:=by intro j v hv;rw[Gx]at hv;unfold World.cell? at hv;simp only[hC]at hv;simpa using hv
 have lk:len*k≤m*k:=Nat.mul_le_mul_right _ hle;have lp:0<len*k:=Nat.mul_pos oM kp;have hall:∀j,j<m*k→∀v,(g (j/k))[j%k]? =some v→C[off+j]? =some v:=by intro j hj v hv;have:=(hgl (j/k) ((Nat.div_lt_iff_lt_mul kp).2 hj)).2 (j%k) (Nat.mod_lt _ kp);rw[show j/k*k+j%k=j by rw[Nat.mul_comm];exact Nat.div_add_mod j k,hv]at this;exact cellC _ _ this
 have ll':L.length=len:=by simpa using ll
 have lf:(L.flatMap f).length=len*k:=by rw[Go.Ev.flat_len' fl,ll']
 refine⟨_,L,_,_,t.arr (b:=b) (off:=off) (n:=len) (k:=k) (cap:=m) hC ?_ ?_ ?_ lf hle,fun h hr=>⟨?_,ph h hr.tail⟩,q,?_⟩;have hj:(len*k-1)/k<m:=(Nat.div_lt_iff_lt_mul kp).2 oM;have hp:=hall (len*k-1) oM _ (List.getElem?_eq_getElem (by rw[(hgl _ hj).1];exact Nat.mod_lt _ kp));have:=(Array.getElem?_eq_some_iff.1 hp).1;omega;intro i hi;have:=hfz b (off+i) (by rw[hx];simp[MemPlace.row];exact .inl oM);unfold World.frozen? at this;simp only[hC]at this;simpa using this;intro j u hu;let⟨y,h1,h2⟩:=sJ kp _ (fun y hy=>by
  obtain⟨i,hi,rfl⟩:=List.mem_map.1 hy;exact(hgl i (by have:=List.mem_range.1 hi;omega)).1) j u hu
 rw[List.getElem?_map]at h1;have hlt:j/k<len:=by obtain q|q:=Nat.lt_or_ge (j/k) len;exact q;rw[List.getElem?_eq_none (eV q)]at h1;cases h1
 rw[List.getElem?_range hlt]at h1;simp only[Option.map_some,Option.some.injEq]at h1;subst h1;have hj:=(Nat.div_lt_iff_lt_mul kp).1 hlt;exact hall j oM _ h2;refine⟨by rw[ll'];exact lf,ll'.symm,by rw[ll'];exact hle,_,.inr (hr 0 _ rfl),by rw[ll',lf];omega,by rw[List.drop_zero,List.take_of_length_le (by rw[ll',lf];omega)]⟩;have:=hw ((len+(m-len)) *bs) (by rw[hx];simp[DataW.weights,ht,bk]);rw[ll'];exact Nat.le_trans (Nat.mul_le_mul_right _ oM) this
end
end Go.Proofs.YtdbfhmneijcjbaaGreat
namespace Go.Proofs.YtdbfhmneijcjbaaGreat
variable{cs:List Value}
open Go.ChangeShapes Go.WideShapes Go.ChangeAt Go.WideMaps Go.WideElems Go.RowKit Go.Deep
open Go.Ev (Jj uf cX Tell HasR V ARecs)
open Go.Ev.Lay Go.Ev.St
theorem c9:Tryz.prog.cellsOf 9=1:=by kernel_rfl
theorem Mn:Tryz.prog.cellsOf 38=1:=by kernel_rfl
theorem c39:Tryz.prog.cellsOf 39=1:=by kernel_rfl
theorem c41:Tryz.prog.cellsOf 41=4:=by kernel_rfl
theorem c3':Tryz.prog.cellsOf 3=1:=by kernel_rfl
theorem c35:Tryz.prog.cellsOf 35=1:=by kernel_rfl
theorem c37:Tryz.prog.cellsOf 37=5:=by kernel_rfl
theorem b9:Tryz.prog.bytesOf 9=16:=by kernel_rfl
theorem b41:Tryz.prog.bytesOf 41=56:=by kernel_rfl
theorem b37:Tryz.prog.bytesOf 37=56:=by kernel_rfl
section
variable {H : Type} {enc : TypeId × Value -> H} {W : World}
theorem elT{n:Nat}{y:DataW H×List MemPlace}(h:DataW.trod enc Tryz.prog W 0 (fun _=>true) true n 9 cs=some y)(Z:∀w∈y.1.weights Tryz.prog 9,w<=reachBytes):
 ∃t:List UInt8,cs=[.string ⟨t.toArray⟩]/\t.length<=reachBytes:=by
 obtain⟨s,rfl,rfl,_⟩:=DataW.trod_string Tryz.underlying9 h;exact⟨s.data.toList,iS,Z _ (by simp[DataW.weights])⟩
theorem elM(n:Nat)(cs:List Value)(y:DataW H×List MemPlace)(h:DataW.trod enc Tryz.prog W 0 (fun _=>true) true n 9 cs=some y)(_:∀b off,MemPlace.cell b off∈y.2->W.frozen? ⟨b,off,none⟩=false)(K:∀w∈y.1.weights Tryz.prog 9,w<=reachBytes)(p:Nat):
 ∃(a:List UInt8)(Ms:List (Option Go.Ev.Loc))(Z:List (List V)),Tell W p (sS a) cs Ms Z/\(∀h,HasR h p Z->(fun(_:Go.Ev.Heap)(_:List UInt8)=>True) h a)/\(fun _:List UInt8=>True) a:=by
 obtain⟨t,rfl,_⟩:=elT h K;refine⟨t,[],[],Tell.flat (fun m=>⟨_,[],rfl,rfl,rfl⟩) (fun u hu=>?_),fun _ _=>trivial,trivial⟩;rw[List.mem_singleton.1 hu];exact Go.Ev.VEx.str _
theorem elU{n:Nat}{y:DataW H×List MemPlace}(h:DataW.trod enc Tryz.prog W 0 (fun _=>true) true n 38 cs=some y):∃k:Nat,k<18446744073709551616/\cs=[.int .u64 (k:Int)]:=by let⟨k0,e0,_,w0⟩:=DataW.trod_int Tryz.underlying38 h;have b0:=bounds_u64 w0;obtain⟨kk,rfl⟩:∃n:Nat,k0=n:=⟨k0.toNat,oM⟩;exact⟨kk,oM,e0⟩
theorem elB{n:Nat}{y:DataW H×List MemPlace}(h:DataW.trod enc Tryz.prog W 0 (fun _=>true) true n 5 cs=some y):∃k:Nat,k<256/\cs=[.int .u8 (k:Int)]:=by let⟨k0,e0,_,w0⟩:=DataW.trod_int Tryz.underlying5 h;have b0:=bounds_u8 w0;obtain⟨kk,rfl⟩:∃n:Nat,k0=n:=⟨k0.toNat,oM⟩;exact⟨kk,oM,e0⟩
theorem elZ{n:Nat}{y:DataW H×List MemPlace}(h:DataW.trod enc Tryz.prog W 0 (fun _=>true) true n 3 cs=some y):∃k:Int,i64 k/\cs=[.int .i64 k]:=by let⟨k0,e0,_,w0⟩:=DataW.trod_int Tryz.underlying3 h;have b0:=bounds_i64 w0;exact⟨k0,⟨b0.1,b0.2⟩,e0⟩
def Qi(y:Itm):Prop:=y.key<18446744073709551616/\y.type<256/\y.marks.length<140737488355328/\y.text.length<140737488355328
theorem elI(n:Nat)(cs:List Value)(y:DataW H×List MemPlace)(h:DataW.trod enc Tryz.prog W 0 (fun _=>true) true n 41 cs=some y)(ak:∀b off,MemPlace.cell b off∈y.2->W.frozen? ⟨b,off,none⟩=false)(hw:∀w∈y.1.weights Tryz.prog 41,w<=reachBytes)(p:Nat):
 ∃(a:Itm)(Ms:List (Option Go.Ev.Loc))(Cs:List (List V)),Tell W p a.cells cs Ms Cs/\(∀h,HasR h p Cs->(fun h (a:Itm)=>ARecs sS 1 h a.vm a.marks) h a)/\Qi a:=by
 obtain⟨y0,y1,y2,y3,Z,rfl,hl,h0,h1,h2,h3⟩:=Go.Joins.trod_struct4 Tryz.underlying41 h;rw[c41]at hl;obtain⟨v0,v1,v2,v3,rfl⟩:=LB hl;have K:DataW.trod enc Tryz.prog W 0 (fun _=>true) true Z 38 (([v0,v1,v2,v3].drop 0).take (Tryz.prog.cellsOf 38))=some y0:=h0;have af:DataW.trod enc Tryz.prog W 0 (fun _=>true) true Z 5 (([v0,v1,v2,v3].drop 1).take (Tryz.prog.cellsOf 5))=some y1:=h1;have ac:DataW.trod enc Tryz.prog W 0 (fun _=>true) true Z 9 (([v0,v1,v2,v3].drop 2).take (Tryz.prog.cellsOf 9))=some y2:=h2;have ae:DataW.trod enc Tryz.prog W 0 (fun _=>true) true Z 39 (([v0,v1,v2,v3].drop 3).take (Tryz.prog.cellsOf 39))=some y3:=h3;rw[Mn]at K;rw[c5]at af;rw[c9]at ac;rw[c39]at ae;have ws:∀w∈y2.1.weights Tryz.prog 9++y3.1.weights Tryz.prog 39,w<=reachBytes:=fun w m=>hw w (by
  simp only[DataW.weights,Tryz.underlying41,DataW.weightsEach,List.map_cons,List.mem_append]at m|-;obtain m|m:=m<;>simp[m])
 let⟨k,hk,e0⟩:=elU (show DataW.trod enc Tryz.prog W 0 (fun _=>true) true Z 38 [v0]=some y0 from K);let⟨t,ht,e1⟩:=elB (show DataW.trod enc Tryz.prog W 0 (fun _=>true) true Z 5 [v1]=some y1 from af);let⟨s,e2,hs⟩:=elT (show DataW.trod enc Tryz.prog W 0 (fun _=>true) true Z 9 [v2]=some y2 from ac) fun w m=>ws w iX;let⟨v,L,Ms,Cs,T,r,_,hL⟩:=xX (p:=p) (f:=sS) Tryz.underlying39 c9 b9 oM (fun _=>rfl) elM (show DataW.trod enc Tryz.prog W 0 (fun _=>true) true Z 39 [v3]=some y3 from ae) (fun b off m=>ak b off iX) (fun w m=>ws w iX);cases e0;cases e1;cases e2;have rb:=reachBytes_lt;have A:Tell W p [.int .u64 (k:Int),.int .u8 (t:Int),.str s] [.int .u64 (k:Int),.int .u8 (t:Int),.string ⟨s.toArray⟩] [] []:=Tell.flat (fun m=>⟨_,_,rfl,rfl,_,_,rfl,rfl,_,_,rfl,rfl,rfl⟩) (fun u hu=>by
  simp only[List.mem_cons,List.not_mem_nil,or_false]at hu;obtain rfl|rfl|rfl:=hu;exact Go.Ev.VEx.int _ _;exact Go.Ev.VEx.int _ _;exact Go.Ev.VEx.str _)
 exact⟨⟨k,t,s,L,v⟩,[]++Ms,[]++Cs,A.app T,fun h hr=>(r h hr).1,hk,ht,by show L.length<_;omega,by show s.length<_;omega⟩
def Qn(x:Nt):Prop:=x.n.k<256/\i64 x.n.a/\i64 x.n.c/\i64 x.n.t/\x.n.Y.length<140737488355328/\∀y∈x.n.Y,Qi y
theorem LC{α:Type}{l:List α}(h:l.length=5):∃a b c d e,l=[a,b,c,d,e]:=by
 match l,h with
 |[a,b,c,d,e],_=>exact⟨a,b,c,d,e,rfl⟩
theorem elN(n:Nat)(cs:List Value)(y:DataW H×List MemPlace)(h:DataW.trod enc Tryz.prog W 0 (fun _=>true) true n 37 cs=some y)(ax:∀b off,MemPlace.cell b off∈y.2->W.frozen? ⟨b,off,none⟩=false)(hw:∀w∈y.1.weights Tryz.prog 37,w<=reachBytes)(p:Nat):
 ∃(a:Nt)(Ms:List (Option Go.Ev.Loc))(Cs:List (List V)),Tell W p a.cells cs Ms Cs/\(∀h,HasR h p Cs->(fun h (a:Nt)=>ARecs Itm.cells 4 h a.v a.n.Y/\∀y∈a.n.Y,ARecs sS 1 h y.vm y.marks) h a)/\Qn a:=by
 obtain⟨xs,Z,_,rfl,hl,ae,hf⟩:=DataW.trod_struct Tryz.underlying37 h;rw[c37]at hl;obtain⟨v0,v1,v2,K,v4,rfl⟩:=LC hl;obtain⟨y0,y1,y2,y3,y4,rfl⟩:=LC ae;have ac:DataW.trod enc Tryz.prog W 0 (fun _=>true) true Z 5 (([v0,v1,v2,K,v4].drop 0).take (Tryz.prog.cellsOf 5))=some y0:=hf 0 _ rfl;have ar:DataW.trod enc Tryz.prog W 0 (fun _=>true) true Z 3 (([v0,v1,v2,K,v4].drop 1).take (Tryz.prog.cellsOf 3))=some y1:=hf 1 _ rfl;have af:DataW.trod enc Tryz.prog W 0 (fun _=>true) true Z 3 (([v0,v1,v2,K,v4].drop 2).take (Tryz.prog.cellsOf 3))=some y2:=hf 2 _ rfl;have ak:DataW.trod enc Tryz.prog W 0 (fun _=>true) true Z 3 (([v0,v1,v2,K,v4].drop 3).take (Tryz.prog.cellsOf 3))=some y3:=hf 3 _ rfl;have an:DataW.trod enc Tryz.prog W 0 (fun _=>true) true Z 35 (([v0,v1,v2,K,v4].drop 4).take (Tryz.prog.cellsOf 35))=some y4:=hf 4 _ rfl;rw[c5]at ac;rw[c3']at ar af ak;rw[c35]at an;let⟨k,hk,e0⟩:=elB (show DataW.trod enc Tryz.prog W 0 (fun _=>true) true Z 5 [v0]=some y0 from ac);let⟨a,ha,e1⟩:=elZ (show DataW.trod enc Tryz.prog W 0 (fun _=>true) true Z 3 [v1]=some y1 from ar);let⟨c,hc,e2⟩:=elZ (show DataW.trod enc Tryz.prog W 0 (fun _=>true) true Z 3 [v2]=some y2 from af);let⟨t,ht,e3⟩:=elZ (show DataW.trod enc Tryz.prog W 0 (fun _=>true) true Z 3 [K]=some y3 from ak);let⟨v,L,Ms,Cs,T,r,q,hL⟩:=xX (p:=p) (f:=Itm.cells) Tryz.underlying35 c41 b41 oM aZ elI (show DataW.trod enc Tryz.prog W 0 (fun _=>true) true Z 35 [v4]=some y4 from an) (fun b off m=>ax b off iX) (fun w m=>hw w (by
  simp only[DataW.weights,Tryz.underlying37,DataW.weightsEach,List.map_cons,List.mem_append];simp[m]))
 cases e0;cases e1;cases e2;cases e3;have rb:=reachBytes_lt;have A:Tell W p [.int .u8 (k:Int),.int .i64 a,.int .i64 c,.int .i64 t] [.int .u8 (k:Int),.int .i64 a,.int .i64 c,.int .i64 t] [] []:=Tell.flat (fun m=>⟨_,_,rfl,rfl,_,_,rfl,rfl,_,_,rfl,rfl,_,_,rfl,rfl,rfl⟩) (fun u hu=>by
  simp only[List.mem_cons,List.not_mem_nil,or_false]at hu;obtain rfl|rfl|rfl|rfl:=hu<;>exact Go.Ev.VEx.int _ _)
 exact⟨⟨⟨k,a,c,t,L⟩,v⟩,[]++Ms,[]++Cs,A.app T,r,hk,ha,hc,ht,by show L.length<_;omega,q⟩
theorem K6{n p:Nat}{x:Value}{y:DataW H×List MemPlace}(h:DataW.trod enc Tryz.prog W 0 (fun _=>true) true n 71 [x]=some y)(ac:∀b off,MemPlace.cell b off∈y.2->W.frozen? ⟨b,off,none⟩=false)(hw:∀w∈y.1.weights Tryz.prog 71,w<=reachBytes):
 ∃(v:V)(L:List Nt)(Ms:List (Option Go.Ev.Loc))(K:List (List V)),Tell W p [v] [x] Ms K/\∀h,HasR h p K->NQ h v L:=by
 let⟨v,L,Ms,K,T,r,q,hL⟩:=xX (p:=p) (f:=Nt.cells) Tryz.underlying71 c37 b37 oM pJ elN h ac hw;have rb:=reachBytes_lt;refine⟨v,L,Ms,K,T,fun h hr=>⟨fun S h' f=>?_,fun x m=>?_⟩⟩;let⟨r1,r2⟩:=r h' fun i c e=>f.ro _ _ (hr i c e);refine⟨r1,oM,fun x m=>?_⟩;let⟨_,_,_,_,q5,q6⟩:=q x m;exact⟨(r2 x m).1,q5,fun y Z=>⟨(r2 x m).2 y Z,(q6 y Z).2.2.1,(q6 y Z).2.2.2⟩⟩;let⟨q1,q2,q3,q4,_,q6⟩:=q x m;exact⟨q1,q2,q3,q4,fun y Z=>⟨(q6 y Z).1,(q6 y Z).2.1⟩⟩
end
end Go.Proofs.YtdbfhmneijcjbaaGreat
