/- StoresApply returns true whatever the input: for every list that the definition draws and all notices. -/
import Derived.Test.YtdbfhmneijcjbaaGreatP18
set_option linter.unusedSimpArgs false
set_option linter.unusedVariables false
set_option linter.constructorNameAsVariable false
set_option linter.unnecessarySimpa false
open Go.RowKit
namespace Go.Ev.Lay
theorem apply_calls{W:World}{x y z:Value}{vx vy vz:V}{k:Nat}{L:List (Nat×Nat×Nat×Nat)}{M:List Nat}{N:List Nt}{Ms:List (Option Loc)}{Cs:List (List V)}(T:Tell W 2 [vx,vy,vz] [x,y,z] Ms Cs)(hk:k<256)
 (ra:∀h,HasR h 2 Cs→(ARecs q4 4 h vx L∧ARecs b8 1 h vy M)∧NQ h vz N) (hL:∀q∈L,q.1<256∧q.2.1<256∧q.2.2.1<256∧q.2.2.2<256) (hM:∀n∈M,n<256):
 Calls Go.Proofs.Tryz.prog 5 #[.agg #[x,y,.int .u8 (k:Int)],z] W fun e W'=>e=.returned (.bool true)∧Below W.heap.size W W':=by
 have has:Has (mS Ms) 2 Ms:=fun i loc h=>Lf h;have H:HRel (mS Ms) (hS Cs) W:=Md T.l (T.a _ has);have hlen:=T.l;have hG:Glob KP 0 (mS Ms):=by
  refine⟨fun g hg=>absurd hg (Nat.not_lt_zero g),fun p loc g hp hlp=>?_⟩;obtain⟨i,rfl,h⟩:=lu hp;have hi:=(List.getElem?_eq_some_iff.1 h).1;have:=(T.a _ has i loc _ h (List.getElem?_eq_getElem (by omega))).1;rw[this]at hlp;cases hlp
 obtain⟨⟨a0,a1⟩,nq⟩:=ra (hS Cs) fun i c h=>JF h;obtain⟨u,h',e,rfl,F⟩:=q8 JE a0 hL a1 hM hk nq;obtain⟨_,SS⟩:=(Ml _ _ _ _ _ e).1 (by decide);obtain⟨_,_,e0,q0,_,_,e1,q1,_,_,e2,q2,e3⟩:=T.v _ has;simp only[List.cons.injEq]at e0;obtain⟨rfl,rfl⟩:=e0;simp only[List.cons.injEq]at e1;obtain⟨rfl,rfl⟩:=e1;simp only[List.cons.injEq]at e2;obtain⟨rfl,_⟩:=e2;have rel:VsRel (mS Ms) [.agg [vx,vy,.int .u8 (k:Int)],vz] [.agg #[x,y,.int .u8 (k:Int)],z]:=
  ⟨_,_,rfl,⟨[x,y,.int .u8 (k:Int)],rfl,x,[y,.int .u8 (k:Int)],rfl,q0,y,[.int .u8 (k:Int)],rfl,q1,_,[],rfl,rfl,rfl⟩,_,_,rfl,q2,rfl⟩
 refine(SS (mS Ms) W _ rel H hG).1.mono ?_;rintro e' W' ⟨yv,m',he,ry,H',E⟩;have:yv=.bool true:=ry;subst this;refine⟨he,Gm H H' E fun p loc hp'=>?_⟩;obtain⟨i,rfl,h1⟩:=lu hp';have hi:=(List.getElem?_eq_some_iff.1 h1).1;obtain⟨c',hc'⟩:∃c',Cs[i]? =some c':=⟨_,List.getElem?_eq_getElem (by omega)⟩;have rs:=JF hc';exact⟨c',.inr rs,.inr (F.ro _ _ rs),(T.a _ has i loc c' h1 hc').2.1,T.e c' (List.mem_of_getElem? hc')⟩
end Go.Ev.Lay
namespace Go.Proofs.YtdbfhmneijcjbaaGreat
open Go.ChangeShapes Go.WideShapes Go.ChangeAt Go.WideMaps Go.WideElems Go.RowKit Go.Deep
open Go.Ev (uf cX Tell HasR V ARecs)
open Go.Ev.Lay (q4 b8)
theorem Mq:Tryz.prog.bytesOf 203=4:=by kernel_rfl
theorem b5:Tryz.prog.bytesOf 5=1:=by kernel_rfl
section
variable {H : Type} {enc : TypeId × Value → H} {W : World}
theorem K7{n p:Nat}{cs:List Value}{y:DataW H×List MemPlace}(h:DataW.trod enc Tryz.prog W 0 (fun _=>true) true n 60 cs=some y)(hfz:∀b off,MemPlace.cell b off∈y.2→W.frozen? ⟨b,off,none⟩=false)(hw:∀w∈y.1.weights Tryz.prog 60,w≤reachBytes):
 ∃(u v:Value)(k:Nat)(vu vv:V)(L:List (Nat×Nat×Nat×Nat))(M:List Nat)(Ms:List (Option Go.Ev.Loc))(Cs:List (List V)),cs=[u,v,.int .u8 ((k:Nat):Int)]∧k<256∧Tell W p [vu,vv] [u,v] Ms Cs∧
  (∀h,HasR h p Cs→ARecs q4 4 h vu L∧ARecs b8 1 h vv M)∧(∀q∈L,q.1<256∧q.2.1<256∧q.2.2.1<256∧q.2.2.2<256)∧∀n∈M,n<256:=by
 obtain⟨y0,y1,y2,n1,rfl,hl,h0,h1,h2⟩:=trod_struct3 Tryz.underlying60 h;rw[c60]at hl;have h0':DataW.trod enc Tryz.prog W 0 (fun _=>true) true n1 57 ((cs.drop 0).take (Tryz.prog.cellsOf 57))=some y0:=h0;have h1':DataW.trod enc Tryz.prog W 0 (fun _=>true) true n1 58 ((cs.drop 1).take (Tryz.prog.cellsOf 58))=some y1:=h1;have h2':DataW.trod enc Tryz.prog W 0 (fun _=>true) true n1 5 ((cs.drop 2).take (Tryz.prog.cellsOf 5))=some y2:=h2;rw[c57]at h0';rw[c58]at h1';rw[c5]at h2';obtain⟨v0,v1,v2,rfl⟩:=Jl hl;obtain⟨z0,n2,rfl,_,hy0⟩:=trod_struct1 Tryz.underlying57 h0';have hy:DataW.trod enc Tryz.prog W 0 (fun _=>true) true n2 55 (([v0].drop 0).take (Tryz.prog.cellsOf 55))=some z0:=hy0;rw[c55]at hy;have w0:∀w∈z0.1.weights Tryz.prog 55,w≤reachBytes:=fun w m=>hw w (by
  simp only[DataW.weights,Tryz.underlying60,Tryz.underlying57,DataW.weightsEach,List.map_cons,List.mem_append];simp[m])
 have w1:∀w∈y1.1.weights Tryz.prog 58,w≤reachBytes:=fun w m=>hw w (by
  simp only[DataW.weights,Tryz.underlying60,DataW.weightsEach,List.map_cons,List.mem_append];simp[m])
 obtain⟨vu,L,Ms,Cs,T,r,q,_⟩:=xX (p:=p) (f:=q4) (Φ:=fun _ _=>True) (Q:=fun q:Nat×Nat×Nat×Nat=>q.1<256∧q.2.1<256∧q.2.2.1<256∧q.2.2.2<256) Tryz.underlying55 LJ Mq (by omega) (fun _=>rfl) (fun n cs y h _ _ p=>by
  obtain⟨q,hq,rfl⟩:=el4 n cs y h;refine⟨q,[],[],Tell.flat (fun m=>⟨_,_,rfl,rfl,_,_,rfl,rfl,_,_,rfl,rfl,_,_,rfl,rfl,rfl⟩) (fun u hu=>?_),fun _ _=>trivial,hq⟩;simp only[q4,List.mem_cons,List.not_mem_nil,or_false]at hu;rcases hu with rfl|rfl|rfl|rfl<;>exact Go.Ev.VEx.int _ _) (show DataW.trod enc Tryz.prog W 0 (fun _=>true) true n2 55 [v0]=some z0 from hy) (fun b off m=>hfz b off (by simp[m])) w0
 obtain⟨vv,M,Ms',Cs',T',r',q',_⟩:=xX (p:=p+Ms.length) (f:=b8) (Φ:=fun _ _=>True) (Q:=fun n:Nat=>n<256) Tryz.underlying58 c5 b5 (by omega) (fun _=>rfl) (fun n cs y h _ _ p=>by
  obtain⟨q,hq,rfl⟩:=el8 n cs y h;refine⟨q,[],[],Tell.flat (fun m=>⟨_,_,rfl,rfl,rfl⟩) (fun u hu=>?_),fun _ _=>trivial,hq⟩;rw[List.mem_singleton.1 hu];exact Go.Ev.VEx.int _ _) (show DataW.trod enc Tryz.prog W 0 (fun _=>true) true n1 58 [v1]=some y1 from h1') (fun b off m=>hfz b off (by simp[m])) w1
 obtain⟨k,hk,rfl⟩:=LK (show DataW.trod enc Tryz.prog W 0 (fun _=>true) true n1 5 [v2]=some y2 from h2');exact⟨v0,v1,k,vu,vv,L,M,_,_,rfl,hk,T.app T',fun h hr=>⟨(r h hr.left).1,(r' h (by rw[T.l];exact hr.right)).1⟩,q,q'⟩
end
set_option maxRecDepth 100000 in
theorem xH(os:Os)(started:os.Started)(H:Type)(enc:TypeId×Value→H):
 ReturnsInHanded {} Tryz.checked os 5 .any (Rows.storesApplySpec.pre6 enc Tryz.prog Tryz.f5 [] false)
  (Rows.storesApplySpec.post enc Tryz.prog Tryz.f5 false true false false):=by
 refine returnsInHanded_of_change_sized (C:=Tryz.checked) own started (by kernel_rfl) Tryz.func5
  (ChangeSpec.witness6 (enc:=enc) (C:=Tryz.checked) false ⟨#[], #[.agg #[.slice none 0 0,.slice none 0 0,.int .u8 0],.slice none 0 0],[]⟩ 8 (by kernel_rfl) (by kernel_rfl) (by kernel_rfl) (by kernel_rfl)) ?_
 intro W base args ds gs before hval0 hW _ hsz _;have hval:∀(j:Nat) t v,Tryz.f5.params[j]? =some t→args[j]? =some v→Value.okWide Tryz.prog W .any base t v:=hval0;have hW':=hW;obtain⟨p,q,hA0,hV,rfl,hfz,hnd⟩:=hW;have hA:DataW.TrodAll enc Tryz.prog W 0 (fun _=>true) true Tryz.f5.params.toList args.toList ds p:=hA0;have hsz':(DataW.weightsEach Tryz.prog (Tryz.f5.params.toList++[]) (ds++gs)).all (· ≤reachBytes)=true:=hsz;rw[Tryz.params5]at hA hval hsz';obtain⟨v0,v1,d0,d1,p0,p1,rfl,rfl,rfl,t0,t1⟩:=trodAll_two hA;obtain⟨rfl,rfl⟩:=trodVars_none hV;obtain⟨cs0,rfl,hs0⟩:=okWide_struct Tryz.underlying60 (hval 0 60 v0 rfl rfl);rw[c60]at hs0;obtain⟨xa,xb,xc,rfl⟩:=Dx hs0;obtain⟨sa,sl,sc,rfl⟩:=okWide_slice Tryz.underlying71 (hval 1 71 v1 rfl rfl);have k0:=t0;have k1:=t1;have ws:∀w∈d0.weights Tryz.prog 60++d1.weights Tryz.prog 71,w≤reachBytes:=fun w m=>by
  have:=List.all_eq_true.1 hsz' w (by simp only[List.append_nil,DataW.weightsEach,List.mem_append]at m⊢;simpa using m);simpa using this
 obtain⟨fu0,hf0⟩:=t0;obtain⟨u,v,k,vu,vv,L,M,Ms,Cs,ec,hk,T,r,hL,hM⟩:=K7 (p:=2) hf0 (fun b off hm=>hfz b off (by simp[hm])) (fun w m=>ws w (by simp[m]));have ec':[xa,xb,xc]=[u,v,.int .u8 (k:Int)]:=ec;simp only[List.cons.injEq,and_true]at ec';obtain⟨rfl,rfl,rfl⟩:=ec';obtain⟨fu1,hf1⟩:=t1;obtain⟨vz,N,Ms',Cs',T',r'⟩:=K6 (p:=2+Ms.length) (show DataW.trod enc Tryz.prog W 0 (fun _=>true) true fu1 71 [.slice sa sl sc]=some (d1,p1)from hf1) (fun b off hm=>hfz b off (by simp[hm])) (fun w m=>ws w (by simp[m]));simp only[List.append_nil]at hW';have hlt:=hW'.lt;refine(Ev.Lay.apply_calls (T.app T') hk (fun h hr=>⟨r h hr.left,r' h (by rw[T.l];exact hr.right)⟩) hL hM).mono fun e W' ⟨he,hB⟩=>?_;subst he;refine⟨_,rfl,_,_,_,[],p0++p1,[],hW',?_,?_,?_,hB.frame _,fun h=>by cases h⟩
 ·exact trodAll_mk1 (shut_bool Tryz.underlying4 true)
 ·exact trodAll_mk2 (Below.trod Bt (by kernel_rfl) (of_decide_eq_true (by kernel_rfl)) k0 hB (fun y hy=>hlt y (by simp[hy]))) (Below.trod Bt (by kernel_rfl) (of_decide_eq_true (by kernel_rfl)) k1 hB (fun y hy=>hlt y (by simp[hy])))
 ·rfl
theorem ja:laidOutB Tryz.pinned.checked.prog=true:=by kernel_rfl
theorem jb:mapsRowed Tryz.pinned.checked.prog=true:=by kernel_rfl
theorem jc:Program.stopsHeard Tryz.pinned.checked.prog=true:=by kernel_rfl
theorem jd:Program.mayEnter Tryz.pinned.checked.prog=true:=by kernel_rfl
theorem je:Program.unfollowed Tryz.pinned.checked.prog 5=true:=by kernel_rfl
theorem jf:Program.recurses Tryz.pinned.checked.prog 5=true:=by kernel_rfl
theorem jg:Program.varsNamed Tryz.pinned.checked.prog 5=[]:=by kernel_rfl
theorem jh:joinedFacts Tryz.pinned.checked.prog 5 Tryz.f5 Rows.storesApplySpec Rows.storesApplyRow=true:=by
 unfold joinedFacts;rw[ja,jb,jc,jd,je,jf,jg]
 kernel_rfl
theorem ji:Tryz.pinned.checked.prog.funcNamed Rows.storesApplyRow.func=some 5:=by kernel_rfl
theorem jj:Tryz.f5.isWrapper Tryz.pinned.checked.prog Rows.storesApplyRow.wrapper Rows.storesApplyRow.mainSum:=by
 unfold Func.isWrapper;rw[if_neg (of_decide_eq_false (by kernel_rfl))];exact⟨rfl,rfl⟩
theorem apply_holds:Rows.StoresApplySaid:=
 OpenClaim.holds_of_wide 5 Tryz.f5 rfl rfl rfl rfl rfl rfl rfl ⟨rfl,rfl,rfl,rfl,rfl⟩ rfl rfl rfl rfl rfl ji Tryz.func5 jh
  (of_decide_eq_true (by kernel_rfl)) jj
  (fun os started H enc _=>xH os started H enc)
end Go.Proofs.YtdbfhmneijcjbaaGreat
