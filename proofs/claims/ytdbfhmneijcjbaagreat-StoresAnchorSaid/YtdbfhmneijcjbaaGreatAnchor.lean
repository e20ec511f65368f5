/- StoresAnchor: for every list, notices and anchor the law answers true, and the input reads as it did. -/
import Derived.Test.YtdbfhmneijcjbaaGreatP15
import Derived.Test.YtdbfhmneijcjbaaGreatP18
set_option linter.unusedSimpArgs false
set_option linter.unusedVariables false
set_option linter.constructorNameAsVariable false
set_option linter.unnecessarySimpa false
open Go.RowKit
namespace Go.Ev.Lay
open Go.Proofs.YtdbfhmneijcjbaaGreat (gq4 gb8)
theorem rj{α:Type}{g:α→List qB}{f:α→List V}(e:∀a,(g a).map cV=f a)(L:List α):(L.flatMap g).map cV=L.flatMap f:=by
  rw[List.map_flatMap];exact congrArg (fun F=>L.flatMap F) (funext e)
theorem Ep{α:Type}{l:List α}(h:l.length=3):∃a b c,l=[a,b,c]:=by
  match l,h with
  |[a,b,c],_=>exact⟨a,b,c,rfl⟩
def gq5(q:B5):List qB:=[(.u8,(q.1:Int)),(.u8,(q.2.1:Int)),(.u8,(q.2.2.1:Int)),(.u8,(q.2.2.2.1:Int)),(.u8,(q.2.2.2.2:Int))]
theorem anchor_calls{W:World}{x y z:Value}{k zk:Nat}{off zd:Int}{L:List (Nat×Nat×Nat×Nat)}{M:List Nat}{T:List B5}(hk:k<256)(io:P8 off)(hz:zk<18446744073709551616)(cx:vJ W x 4 L.length (L.flatMap gq4))(hL:∀q∈L,q.1<256∧q.2.1<256∧q.2.2.1<256∧q.2.2.2<256)
    (cy:vJ W y 1 M.length (M.flatMap gb8)) (hM:∀n∈M,n<256) (cz:vJ W z 5 T.length (T.flatMap gq5)) (hT:∀q∈T,An q):
    Calls Go.Proofs.Tryz.prog 7 #[.agg #[x,y,.int .u8 (k:Int)],.agg #[z],.agg #[.int .i64 off,.int .u64 (zk:Int),.int .i64 zd]] W fun e W'=>e=.returned (.bool true)∧Below W.heap.size W W':=by
  obtain⟨vs,Ms,Cs,l1,l2,l3,r1,r2,r3,r4⟩:=LC (W:=W) [(x,4,L.length,L.flatMap gq4),(y,1,M.length,M.flatMap gb8),(z,5,T.length,T.flatMap gq5)] 2 (by simp[cx,cy,cz]);obtain⟨v0,v1,v2,rfl⟩:=Ep l1;have hlen:Ms.length=Cs.length:=by rw[l2,l3]
  have H:r_ (mS Ms) (hS Cs) W:=OR hlen r2;have hG:V6 KP 0 (mS Ms):=by
    refine⟨fun g hg=>absurd hg (Nat.not_lt_zero g),fun p loc g hp hlp=>?_⟩;obtain⟨i,rfl,h⟩:=mH hp;have hi:=(List.getElem?_eq_some_iff.1 h).1;rw[(r2 i loc _ h (List.getElem?_eq_getElem (by omega))).1]at hlp;cases hlp
  have rr:=r1 (mS Ms) (fun i loc h=>NU h);have ss:=r3 (hS Cs) (fun i c h=>LT h);have a0:C_ q4 4 (hS Cs) v0 L:=by have:=ss 0 v0 _ rfl rfl;rw[rj (f:=q4) fun _=>rfl]at this;exact this
  have a1:C_ b8 1 (hS Cs) v1 M:=by have:=ss 1 v1 _ rfl rfl;rw[rj (f:=b8) fun _=>rfl]at this;exact this
  have a2:C_ q5 5 (hS Cs) v2 T:=by have:=ss 2 v2 _ rfl rfl;rw[rj (f:=q5) fun _=>rfl]at this;exact this
  obtain⟨u,h',e,rfl,F⟩:=sF (zd:=zd) LS a0 hL a1 hM hk a2 hT io hz;obtain⟨_,SS⟩:=(OZ _ _ _ _ _ e).1 (by decide);obtain⟨_,e0,q0⟩:=rr 0 v0 rfl;obtain⟨_,e1,q1⟩:=rr 1 v1 rfl;obtain⟨_,e2,q2⟩:=rr 2 v2 rfl;cases e0;cases e1;cases e2;have rel:h_ (mS Ms) [.B [v0,v1,.C .u8 (k:Int)],.B [v2],.B [.C .i64 off,.C .u64 (zk:Int),.C .i64 zd]] [.agg #[x,y,.int .u8 (k:Int)],.agg #[z],.agg #[.int .i64 off,.int .u64 (zk:Int),.int .i64 zd]]:=
    ⟨_,_,rfl,⟨[x,y,.int .u8 (k:Int)],rfl,x,[y,.int .u8 (k:Int)],rfl,q0,y,[.int .u8 (k:Int)],rfl,q1,_,[],rfl,rfl,rfl⟩,_,_,rfl,⟨[z],rfl,z,[],rfl,q2,rfl⟩,_,_,rfl,⟨_,rfl,_,_,rfl,rfl,_,_,rfl,rfl,_,[],rfl,rfl,rfl⟩,rfl⟩
  refine(SS (mS Ms) W _ rel H hG).1.mono ?_;rintro e' W' ⟨yv,m',he,ry,H',E⟩;have:yv=.bool true:=ry;subst this;refine⟨he,Ct H H' E fun p loc hp'=>?_⟩;obtain⟨i,rfl,h1⟩:=mH hp';have hi:=(List.getElem?_eq_some_iff.1 h1).1;obtain⟨c',hc'⟩:∃c',Cs[i]? =some c':=⟨_,List.getElem?_eq_getElem (by omega)⟩;have rs:=LT hc';exact⟨c',.inr rs,.inr (F.ro _ _ rs),(r2 i loc c' h1 hc').2.1,r4 c' (List.mem_of_getElem? hc')⟩
end Go.Ev.Lay
namespace Go.Proofs.YtdbfhmneijcjbaaGreat
open Go.ChangeShapes Go.WideShapes Go.ChangeAt Go.WideMaps Go.WideElems Go.RowKit Go.Deep
open Go.Ev (vJ qB cX)
open Go.Ev.Lay (gq5 An B5)
theorem c38:Tryz.prog.cellsOf 38=1:=by kernel_rfl
theorem c2:Tryz.prog.cellsOf 2=1:=by kernel_rfl
theorem c96:Tryz.prog.cellsOf 96=1:=by kernel_rfl
theorem c98:Tryz.prog.cellsOf 98=1:=by kernel_rfl
theorem O8:Tryz.prog.cellsOf 100=2:=by kernel_rfl
theorem O7:Tryz.prog.cellsOf 102=3:=by kernel_rfl
theorem Ot:Tryz.prog.cellsOf 168=5:=by kernel_rfl
theorem two{α:Type}{l:List α}(h:l.length=2):∃a b,l=[a,b]:=by
  match l,h with
  |[a,b],_=>exact⟨a,b,rfl⟩
theorem one{α:Type}{l:List α}(h:l.length=1):∃a,l=[a]:=by
  match l,h with
  |[a],_=>exact⟨a,rfl⟩
theorem O4{α:Type}{l:List α}(h:l.length=5):∃a b c d e,l=[a,b,c,d,e]:=by
  match l,h with
  |[a,b,c,d,e],_=>exact⟨a,b,c,d,e,rfl⟩
theorem el5{H:Type}{enc:TypeId×Value→H}{W:World}(n:Nat)(cs:List Value)(y:DataW H×List MemPlace)(h:DataW.trod enc Tryz.prog W 0 (fun _=>true) true n 168 cs=some y):∃q:B5,An q∧cs=(gq5 q).map cX:=by
  obtain⟨xs,m1,rfl,_,hlen,hn,he⟩:=DataW.trod_array Tryz.underlying168 h;rw[Ot]at hlen;rw[c5]at he;have get:∀i,i<5→∃k:Nat,k<256∧cs[i]? =some (.int .u8 (k:Int)):=by
    intro i hi;have hx:xs[i]? =some (xs[i]'(by omega)):=List.getElem?_eq_getElem _;obtain⟨k0,e0,_,w0⟩:=DataW.trod_int Tryz.underlying5 ((he i hi).trans hx);have b0:=bounds_u8 w0;obtain⟨kk,rfl⟩:∃n:Nat,k0=n:=⟨k0.toNat,by omega⟩;rw[Nat.mul_one]at e0;exact⟨kk,by omega,zV e0⟩
  obtain⟨a,ha,ea⟩:=get 0 (by omega);obtain⟨b,hb,eb⟩:=get 1 (by omega);obtain⟨c,hc,ec⟩:=get 2 (by omega);obtain⟨d,hd,ed⟩:=get 3 (by omega);obtain⟨e,he',ee⟩:=get 4 (by omega);refine⟨(a,b,c,d,e),⟨ha,hb,hc,hd,he'⟩,?_⟩;obtain⟨v0,v1,v2,v3,v4,rfl⟩:=O4 hlen;obtain rfl:v0=_:=by simpa using ea
  obtain rfl:v1=_:=by simpa using eb
  obtain rfl:v2=_:=by simpa using ec
  obtain rfl:v3=_:=by simpa using ed
  obtain rfl:v4=_:=by simpa using ee
  rfl
theorem Oq{H:Type}{enc:TypeId×Value→H}{W:World}{n:Nat}{x:Value}{y:DataW H×List MemPlace}(h:DataW.trod enc Tryz.prog W 0 (fun _=>true) true n 98 [x]=some y)(hfz:∀b off,MemPlace.cell b off∈y.2→W.frozen? ⟨b,off,none⟩=false):
    ∃T:List B5,vJ W x 5 T.length (T.flatMap gq5)∧∀q∈T,An q:=by
  obtain⟨z0,n2,hz,_,hy0⟩:=trod_struct1 Tryz.underlying98 h;have hy:DataW.trod enc Tryz.prog W 0 (fun _=>true) true n2 96 (([x].drop 0).take (Tryz.prog.cellsOf 96))=some z0:=hy0;rw[c96]at hy;have ez:y.2=z0.2:=by simpa using(congrArg Prod.snd hz)
  exact Ir Tryz.underlying96 Ot (by omega) (fun _=>rfl) el5 (show DataW.trod enc Tryz.prog W 0 (fun _=>true) true n2 96 [x]=some z0 from hy) (fun b off hm=>hfz b off (by rw[←ez]at hm;exact hm))
theorem Om{H:Type}{enc:TypeId×Value→H}{W:World}{n:Nat}{x y z:Value}{d:DataW H×List MemPlace}(h:DataW.trod enc Tryz.prog W 0 (fun _=>true) true n 102 [x,y,z]=some d):
    ∃(off:Int)(zk:Nat)(zd:Int),x=.int .i64 off∧y=.int .u64 (zk:Int)∧z=.int .i64 zd∧Go.Ev.Lay.P8 off∧zk<18446744073709551616:=by
  obtain⟨y0,y1,n1,_,hl,h0,h1⟩:=trod_struct2 Tryz.underlying102 h;have h0':DataW.trod enc Tryz.prog W 0 (fun _=>true) true n1 2 (([x,y,z].drop 0).take (Tryz.prog.cellsOf 2))=some y0:=h0;have h1':DataW.trod enc Tryz.prog W 0 (fun _=>true) true n1 100 (([x,y,z].drop 1).take (Tryz.prog.cellsOf 100))=some y1:=h1;rw[c2]at h0';rw[O8]at h1';obtain⟨z0,z1,n2,_,_,h2,h3⟩:=trod_struct2 Tryz.underlying100 (show DataW.trod enc Tryz.prog W 0 (fun _=>true) true n1 100 [y,z]=some y1 from h1');have h2':DataW.trod enc Tryz.prog W 0 (fun _=>true) true n2 38 (([y,z].drop 0).take (Tryz.prog.cellsOf 38))=some z0:=h2;have h3':DataW.trod enc Tryz.prog W 0 (fun _=>true) true n2 2 (([y,z].drop 1).take (Tryz.prog.cellsOf 2))=some z1:=h3;rw[c38]at h2';rw[c2]at h3';obtain⟨k0,e0,_,w0⟩:=DataW.trod_int Tryz.underlying2 h0';obtain⟨k1,e1,_,w1⟩:=DataW.trod_int Tryz.underlying38 h2';obtain⟨k2,e2,_,w2⟩:=DataW.trod_int Tryz.underlying2 h3';have b0:=bounds_i64 w0;have b1:=bounds_u64 w1;obtain⟨kk,rfl⟩:∃n:Nat,k1=n:=⟨k1.toNat,by omega⟩;have e0':x=.int .i64 k0:=by have:[x]=[.int .i64 k0]:=e0;simpa using this
  have e1':y=.int .u64 (kk:Int):=by have:[y]=[.int .u64 (kk:Int)]:=e1;simpa using this
  have e2':z=.int .i64 k2:=by have:[z]=[.int .i64 k2]:=e2;simpa using this
  exact⟨k0,kk,k2,e0',e1',e2',⟨b0.1,b0.2⟩,by omega⟩
theorem K1{cs:Array Value}(h:cs.size=1):∃x,cs= #[x]:=by
  obtain⟨l⟩:=cs;match l,h with
  |[x],_=>exact⟨x,rfl⟩
set_option maxRecDepth 100000 in
theorem v7(os:Os)(started:os.Started)(H:Type)(enc:TypeId×Value→H):
    ReturnsInHanded {} Tryz.checked os 7 .any (Rows.storesAnchorSpec.pre6 enc Tryz.prog Tryz.f7 [] false)
      (Rows.storesAnchorSpec.post enc Tryz.prog Tryz.f7 false true false false):=by
  refine returnsInHanded_of_change (C:=Tryz.checked) own started (by kernel_rfl) Tryz.func7
    (ChangeSpec.witness6 (enc:=enc) (C:=Tryz.checked) false ⟨#[], #[.agg #[.slice none 0 0,.slice none 0 0,.int .u8 0],.agg #[.slice none 0 0],.agg #[.int .i64 0,.int .u64 0,.int .i64 0]],[]⟩ 8 (by kernel_rfl) (by kernel_rfl) (by kernel_rfl) (by kernel_rfl)) ?_
  intro W base args ds gs before hval0 hW _ _;have hval:∀(j:Nat) t v,Tryz.f7.params[j]? =some t→args[j]? =some v→Value.okWide Tryz.prog W .any base t v:=hval0;have hW':=hW;obtain⟨p,q,hA0,hV,rfl,hfz,hnd⟩:=hW;have hA:DataW.TrodAll enc Tryz.prog W 0 (fun _=>true) true Tryz.f7.params.toList args.toList ds p:=hA0;rw[Tryz.params7]at hA hval;obtain⟨v0,v1,v2,d0,d1,d2,p0,p1,p2,rfl,rfl,rfl,t0,t1,t2⟩:=trodAll_three hA;obtain⟨rfl,rfl⟩:=trodVars_none hV;obtain⟨cs0,rfl,hs0⟩:=okWide_struct Tryz.underlying60 (hval 0 60 v0 rfl rfl);rw[c60]at hs0;obtain⟨xa,xb,xc,rfl⟩:=xJ hs0;obtain⟨cs1,rfl,hs1⟩:=okWide_struct Tryz.underlying98 (hval 1 98 v1 rfl rfl);rw[c98]at hs1;obtain⟨z,rfl⟩:=K1 hs1;obtain⟨cs2,rfl,hs2⟩:=okWide_struct Tryz.underlying102 (hval 2 102 v2 rfl rfl);rw[O7]at hs2;obtain⟨za,zb,zc,rfl⟩:=xJ hs2;have k0:=t0;have k1:=t1;have k2:=t2;obtain⟨fu0,hf0⟩:=t0;obtain⟨u,v,k,L,M,ec,hk,cx,hL,cy,hM⟩:=Oo hf0 (fun b off hm=>hfz b off (by simp[hm]));have ec':[xa,xb,xc]=[u,v,.int .u8 (k:Int)]:=ec;simp only[List.cons.injEq,and_true]at ec';obtain⟨rfl,rfl,rfl⟩:=ec';obtain⟨fu1,hf1⟩:=t1;obtain⟨fu2,hf2⟩:=t2;obtain⟨T,cz,hT⟩:=Oq (show DataW.trod enc Tryz.prog W 0 (fun _=>true) true fu1 98 [z]=some (d1,p1)from hf1) (fun b off hm=>hfz b off (by simp[hm]));obtain⟨off,zk,zd,rfl,rfl,rfl,io,hz⟩:=Om (show DataW.trod enc Tryz.prog W 0 (fun _=>true) true fu2 102 [za,zb,zc]=some (d2,p2)from hf2);simp only[List.append_nil]at hW';have hlt:=hW'.lt;refine(Ev.Lay.anchor_calls hk io hz cx hL cy hM cz hT).mono fun e W' ⟨he,hB⟩=>?_;subst he;refine⟨_,rfl,_,_,_,[],p0++(p1++p2),[],hW',?_,?_,?_,hB.frame _,fun h=>by cases h⟩
  ·exact trodAll_mk1 (shut_bool Tryz.underlying4 true)
  ·exact trodAll_mk3 (Below.trod yF (by kernel_rfl) (of_decide_eq_true (by kernel_rfl)) k0 hB (fun y hy=>hlt y (by simp[hy]))) (Below.trod yF (by kernel_rfl) (of_decide_eq_true (by kernel_rfl)) k1 hB (fun y hy=>hlt y (by simp[hy]))) (Below.trod yF (by kernel_rfl) (of_decide_eq_true (by kernel_rfl)) k2 hB (fun y hy=>hlt y (by simp[hy])))
  ·rfl
theorem ja:laidOutB Tryz.pinned.checked.prog=true:=by kernel_rfl
theorem jb:mapsRowed Tryz.pinned.checked.prog=true:=by kernel_rfl
theorem jc:Program.stopsHeard Tryz.pinned.checked.prog=true:=by kernel_rfl
theorem jd:Program.mayEnter Tryz.pinned.checked.prog=true:=by kernel_rfl
theorem je:Program.unfollowed Tryz.pinned.checked.prog 7=true:=by kernel_rfl
theorem jf:Program.recurses Tryz.pinned.checked.prog 7=true:=by kernel_rfl
theorem jg:Program.varsNamed Tryz.pinned.checked.prog 7=[]:=by kernel_rfl
theorem jh:joinedFacts Tryz.pinned.checked.prog 7 Tryz.f7 Rows.storesAnchorSpec Rows.storesAnchorRow=true:=by
  unfold joinedFacts;rw[ja,jb,jc,jd,je,jf,jg]
  kernel_rfl
theorem ji:Tryz.pinned.checked.prog.funcNamed Rows.storesAnchorRow.func=some 7:=by kernel_rfl
theorem jj:Tryz.f7.isWrapper Tryz.pinned.checked.prog Rows.storesAnchorRow.wrapper Rows.storesAnchorRow.mainSum:=by
  unfold Func.isWrapper;rw[if_neg (of_decide_eq_false (by kernel_rfl))];exact⟨rfl,rfl⟩
theorem anchor_holds:Rows.StoresAnchorSaid:=
  OpenClaim.holds_of_wide 7 Tryz.f7 rfl rfl rfl rfl rfl rfl rfl ⟨rfl,rfl,rfl,rfl,rfl⟩ rfl rfl rfl rfl rfl ji Tryz.func7 jh
    (of_decide_eq_true (by kernel_rfl)) jj
    (fun os started H enc _=>v7 os started H enc)
end Go.Proofs.YtdbfhmneijcjbaaGreat
