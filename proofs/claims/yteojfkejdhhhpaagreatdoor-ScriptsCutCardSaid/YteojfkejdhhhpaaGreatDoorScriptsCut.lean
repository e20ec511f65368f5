/- ScriptsCut: scripts are cut, and shortened by one event, as the definition says. Conditions: none beyond the statement. -/
import Derived.Test.YteojfkejdhhhpaaGreatDoorTie
import Derived.Laws.IdiomArrays
import Derived.Test.YteojfkejdhhhpaaGreatDoorCards
import Derived.SevenTiedAt
import Derived.Lay
import Derived.Test.YteojfkejdhhhpaaGreatDoorP18
import Derived.Test.YteojfkejdhhhpaaGreatDoorP25
import Derived.Test.YteojfkejdhhhpaaGreatDoorP26
import Derived.Test.YteojfkejdhhhpaaGreatDoorP27
set_option linter.unusedSimpArgs false
set_option linter.unusedVariables false
set_option linter.constructorNameAsVariable false
set_option linter.unnecessarySimpa false
namespace Go.Proofs.YteojfkejdhhhpaaGreatDoor
open Go.ChangeShapes Go.WideShapes Go.ChangeAt Go.WideMaps Go.WideElems Go.RowKit Go.Deep
open Go.Ev (TU HasR V)
open Go.Ev.Lay (SIn SInH)
theorem Aw{cs:Array Value}:∃l:List Value,cs=l.toArray:=⟨cs.toList,by simp⟩
theorem IH(os:Os)(args:Array Value):laidMetH Tryz.prog sQ ((World.laidAll Tryz.prog os sQ).forCall (fun _ _=>0) ⟨#[],args,[]⟩).memory:=
  by rw[MakeChecks.laidMetH_plain _ _ _ (by kernel_rfl)];exact laidMet_laidAll _ (by kernel_rfl) (by kernel_rfl)
set_option maxRecDepth 100000 in
theorem BN(os:Os)(started:os.Started)(H:Type)(enc:TypeId×Value→H):
    ReturnsInHanded {} Tryz.checked os 4 .any (fun w args=>(Rows.scriptsCutSpec.pre enc Tryz.prog Tryz.f4 [] false w args∧laidMetH Tryz.prog sQ w)∧sizedMet enc Tryz.prog Tryz.f4 (OpenSpec.ofChange Rows.scriptsCutSpec) false w args)
      (Rows.scriptsCutSpec.post enc Tryz.prog Tryz.f4 false true false false):=by
  refine returnsInHanded_of_change_and (C:=Tryz.checked) (X:=fun w _=>laidMetH Tryz.prog sQ w) (fun _ _ _ hh h=>h.of_heap hh) own started (by kernel_rfl) Tryz.func4
    (ChangeSpec.witness_shaped (enc:=enc) (C:=Tryz.checked) (os:=os) (X:=fun w _=>laidMetH Tryz.prog sQ w) false (World.laidAll Tryz.prog os sQ) #[.agg #[.int .u8 0,.int .u8 0,.int .u8 0,.int .u8 0,.int .u8 0,.slice none 0 0,.slice none 0 0,.int .u8 0],.agg #[.int .i64 0,.int .i64 0],.int .u8 0] 8 (World.laidAll_os _ _ _) (World.shaped_of_ZipB (by kernel_rfl) (by kernel_rfl)) (by kernel_rfl) (by kernel_rfl) (by kernel_rfl) (IH os _)) ?_
  intro W base args ds gs before hval0 hW _ hsz hL _;have hval:∀(j:Nat) t v,Tryz.f4.params[j]? =some t→args[j]? =some v→Value.okWide Tryz.prog W .any base t v:=hval0;have hW':=hW;obtain⟨p,q,hA0,hV,rfl,hfz,hnd⟩:=hW;have hA:DataW.TrodAll enc Tryz.prog W 0 (fun _=>true) true Tryz.f4.params.toList args.toList ds p:=hA0;have hsz':(DataW.weightsEach Tryz.prog (Tryz.f4.params.toList++[]) (ds++gs)).all (· ≤reachBytes)=true:=hsz;rw[Tryz.params4]at hA hval hsz';obtain⟨v0,v1,v2,d0,d1,d2,p0,p1,p2,rfl,rfl,rfl,t0,t1,t2⟩:=trodAll_three hA;obtain⟨rfl,rfl⟩:=trodVars_none hV;obtain⟨cs0,rfl,hs0⟩:=okWide_struct Tryz.underlying29 (hval 0 29 v0 rfl rfl);obtain⟨xs,rfl⟩:= @Aw cs0;have hv1:=hval 1 47 v1 rfl rfl;simp only[Value.okWide,Tryz.underlying47]at hv1;obtain⟨cs1,rfl,hs1,_⟩:=hv1;obtain⟨ys,rfl⟩:= @Aw cs1;have k0:=t0;have k1:=t1;have k2:=t2;have ws:∀w∈d0.weights Tryz.prog 29++(d1.weights Tryz.prog 47++d2.weights Tryz.prog 5),w≤reachBytes:=fun w m=>by
    have:=List.all_eq_true.1 hsz' w (by simp only[List.append_nil,DataW.weightsEach,List.mem_append]at m⊢;simpa using m);simpa using this
  obtain⟨fu0,hf0⟩:=t0;obtain⟨x,Ms,Cs,lx,T,r⟩:=Oi (p:=3) (show DataW.trod enc Tryz.prog W 0 (fun _=>true) true fu0 29 xs=some (d0,p0)from hf0) (fun b off hm=>hfz b off (by simp[hm])) (fun w m=>ws w (by simp[m]));obtain⟨fu1,hf1⟩:=t1;obtain⟨n0,n1,i0,i1,rfl⟩:=Oj (show DataW.trod enc Tryz.prog W 0 (fun _=>true) true fu1 47 ys=some (d1,p1)from hf1);obtain⟨z0,rfl,_,_,wz⟩:=open_int Tryz.underlying5 (hval 2 5 v2 rfl rfl) t2;have bz:=bounds_u8 wz;obtain⟨z,rfl⟩:∃n:Nat,z0=n:=⟨z0.toNat,by omega⟩;have hz:z<256:=by omega
  simp only[List.append_nil]at hW';have hlt:=hW'.lt;refine(Ev.Lay.cut_calls (Kb hL) T (fun h hr=>r h hr) i0 i1 hz).mono fun e W' ⟨he,hB⟩=>?_;subst he;refine⟨_,rfl,_,_,_,[],p0++(p1++p2),[],hW',?_,?_,?_,hB.frame _,fun h=>by cases h⟩
  ·exact trodAll_mk1 (shut_bool Tryz.underlying4 true)
  ·exact trodAll_mk3 (Below.trod qR (by kernel_rfl) (of_decide_eq_true (by kernel_rfl)) k0 hB (fun y hy=>hlt y (by simp[hy]))) (Below.trod qR (by kernel_rfl) (of_decide_eq_true (by kernel_rfl)) k1 hB (fun y hy=>hlt y (by simp[hy]))) (Below.trod qR (by kernel_rfl) (of_decide_eq_true (by kernel_rfl)) k2 hB (fun y hy=>hlt y (by simp[hy])))
  ·rfl
theorem Fu:Rows.ScriptsCutSaid:=
  OpenClaim.holds_of_wide 4 Tryz.f4 rfl rfl rfl rfl rfl rfl rfl ⟨rfl,rfl,rfl,rfl,rfl⟩ rfl rfl rfl rfl rfl ji Tryz.func4 jh
    (of_decide_eq_true (by kernel_rfl)) jj
    (fun os started H enc _=>BN os started H enc)
theorem cut_card:Rows.ScriptsCutCardSaid:=
  Claim7.holds_tied_plain_at .later [] [.data,.data,.data,.data,.sentinel,.sentinel,.data,.pinned] true (true,"fe5b6ee2bc16fdbe220c8c5232efc3e838a2bade035a1801d389b383a0796ce1") true
    Fu (fun _ h=>by cases h) pa (fun _ h=>by cases h) scriptsCut_row_tie rfl ⟨rfl,rfl⟩ pb rfl
    (fun f fn hf hfn=>by
      obtain rfl:f=4:=Option.some.inj (pc.symm.trans hf)|>.symm;obtain rfl:fn=Tryz.f4:=(Option.some.inj (Tryz.func4.symm.trans hfn)).symm;exact⟨pd,fun j t ht=>by
        rw[Tryz.params4]at ht;have h3:t=29∨t=47∨t=5:=by
          rcases j with _|_|_|j
          ·left;simpa using ht.symm
          ·right;left;simpa using ht.symm
          ·right;right;simpa using ht.symm
          ·simp at ht
        rcases h3 with rfl|rfl|rfl
        ·exact pe0
        ·exact pe1
        ·exact pe2⟩)
    pg
end Go.Proofs.YteojfkejdhhhpaaGreatDoor
