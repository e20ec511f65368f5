/- StoresErrors: for every list of layer 24, every frame, every anchor and at most 10 heights (more: the examples alone) the law answers true, and the input reads as it did; conditions: none beyond the row. -/
import Derived.Test.YtknldhlnhobdhaaGreatDoorCards
import Derived.Test.YtknldhlnhobdhaaGreatDoorTie
import Derived.SevenTiedAt
import Derived.Test.YtknldhlnhobdhaaGreatDoorP18
set_option linter.unusedSimpArgs false
set_option linter.unusedVariables false
set_option linter.constructorNameAsVariable false
set_option linter.unnecessarySimpa false
namespace Go.Proofs.YtknldhlnhobdhaaGreatDoor
open Go.ChangeShapes Go.WideShapes Go.ChangeAt Go.WideMaps Go.WideElems Go.RowKit Go.Deep
open Go.Ev.Lay (Tab jw rK mY cX gq4 gb8 ght)
theorem EL{cs:Array Value}(h:cs.size=5):∃a b c d e,cs= #[a,b,c,d,e]:=by
  obtain⟨l⟩:=cs;match l,h with
  |[a,b,c,d,e],_=>exact⟨a,b,c,d,e,rfl⟩
theorem Eo(os:Os)(args:Array Value):laidMetH Tryz.prog wz ((World.doorLaid Tryz.prog 400 os).forCall (fun _ _=>0) ⟨#[],args,[]⟩).memory:=
  laidMetH_of_parts3 (fuel:=8) (laidMet_of_run' 8 (by kernel_rfl) (by kernel_rfl)) (by kernel_rfl) (by kernel_rfl)
set_option maxRecDepth 100000 in
theorem rF(os:Os)(started:os.Started)(H:Type)(enc:TypeId×Value→H):
    ReturnsInHanded {} Tryz.checked os 3 .any (fun w args=>(Rows.storesErrorsSpec.pre enc Tryz.prog Tryz.f3 [] false w args∧laidMetH Tryz.prog wz w)∧sizedMet enc Tryz.prog Tryz.f3 (OpenSpec.ofChange Rows.storesErrorsSpec) false w args)
      (Rows.storesErrorsSpec.post enc Tryz.prog Tryz.f3 false true false false):=by
  refine returnsInHanded_of_change_and (C:=Tryz.checked) (X:=fun w _=>laidMetH Tryz.prog wz w) (fun _ _ _ hh h=>h.of_heap hh) own started (by kernel_rfl) Tryz.func3
    (ChangeSpec.witness_shaped (enc:=enc) (C:=Tryz.checked) (os:=os) (X:=fun w _=>laidMetH Tryz.prog wz w) false (World.doorLaid Tryz.prog 400 os) #[.agg #[.slice none 0 0,.slice none 0 0,.int .u8 0],.agg #[.int .i64 0,.int .i64 0,.bool false,.int .u64 0,.int .i64 0],.slice none 0 0] 8 rfl (World.shaped_of_RefB (by kernel_rfl) (by kernel_rfl)) (by kernel_rfl) (by kernel_rfl) (by kernel_rfl) (Eo os _)) ?_
  intro W base args ds gs before hval0 hW _ _ hL _;have hval:∀(j:Nat) t v,Tryz.f3.params[j]? =some t→args[j]? =some v→Value.okWide Tryz.prog W .any base t v:=hval0;have hW':=hW;obtain⟨p,q,hA0,hV,rfl,hfz,hnd⟩:=hW;have hA:DataW.TrodAll enc Tryz.prog W 0 (fun _=>true) true Tryz.f3.params.toList args.toList ds p:=hA0;rw[Tryz.params3]at hA hval;obtain⟨v0,v1,v2,d0,d1,d2,p0,p1,p2,rfl,rfl,rfl,t0,t1,t2⟩:=trodAll_three hA;obtain⟨rfl,rfl⟩:=trodVars_none hV;obtain⟨cs0,rfl,hs0⟩:=okWide_struct Tryz.underlying27 (hval 0 27 v0 rfl rfl);rw[c27]at hs0;obtain⟨xa,xb,xc,rfl⟩:=Cm hs0;obtain⟨cs1,rfl,hs1⟩:=okWide_struct Tryz.underlying34 (hval 1 34 v1 rfl rfl);rw[c34]at hs1;obtain⟨ya,yb,yc,yd,ye,rfl⟩:=EL hs1;obtain⟨sa,sl,sc,rfl⟩:=okWide_slice Tryz.underlying35 (hval 2 35 v2 rfl rfl);have k0:=t0;have k1:=t1;have k2:=t2;obtain⟨fu0,hf0⟩:=t0;obtain⟨u,v,k,L,M,ec,hk,cx,hL',cy,hM⟩:=KU hf0 (fun b off hm=>hfz b off (by simp[hm]));have ec':[xa,xb,xc]=[u,v,.int .u8 (k:Int)]:=ec;simp only[List.cons.injEq,and_true]at ec';obtain⟨rfl,rfl,rfl⟩:=ec';obtain⟨fu1,hf1⟩:=t1;obtain⟨view,over,dd,lo,key,hkey,ed⟩:=elW fu1 [ya,yb,yc,yd,ye] (d1,p1) hf1;simp only[List.cons.injEq,and_true]at ed;obtain⟨rfl,rfl,rfl,rfl,rfl⟩:=ed;obtain⟨fu2,hf2⟩:=t2;obtain⟨P,cz,hP⟩:=ED Tryz.underlying35 KW (by omega) (fun _=>rfl) elH (show DataW.trod enc Tryz.prog W 0 (fun _=>true) true fu2 35 [.slice sa sl sc]=some (d2,p2)from hf2) (fun b off hm=>hfz b off (by simp[hm]));simp only[List.append_nil]at hW';have hlt:=hW'.lt;refine(Ev.Lay.errors_calls (GP hL) hk cx hL' cy hM cz hP hkey).mono fun e W' ⟨he,hB⟩=>?_;subst he;refine⟨_,rfl,_,_,_,[],p0++(p1++p2),[],hW',?_,?_,?_,hB.frame _,fun h=>by cases h⟩
  ·exact trodAll_mk1 (shut_bool Tryz.underlying4 true)
  ·exact trodAll_mk3 (Below.trod uM (by kernel_rfl) (of_decide_eq_true (by kernel_rfl)) k0 hB (fun y hy=>hlt y (by simp[hy]))) (Below.trod uM (by kernel_rfl) (of_decide_eq_true (by kernel_rfl)) k1 hB (fun y hy=>hlt y (by simp[hy]))) (Below.trod uM (by kernel_rfl) (of_decide_eq_true (by kernel_rfl)) k2 hB (fun y hy=>hlt y (by simp[hy])))
  ·rfl
theorem uP:Rows.StoresErrorsSaid:=
  OpenClaim.holds_of_wide 3 Tryz.f3 rfl rfl rfl rfl rfl rfl rfl ⟨rfl,rfl,rfl,rfl,rfl⟩ rfl rfl rfl rfl rfl ji Tryz.func3 jh
    (of_decide_eq_true (by kernel_rfl)) jj
    (fun os started H enc _=>rF os started H enc)
theorem errors_card:Rows.StoresErrorsCardSaid:=
  Claim7.holds_tied_plain_at .later [] [.data] true (true,"d993391e40969475412f14835637d7ee822531f5fa8edd7a624e2e3875cb13ec") false
    uP (fun _ h=>by cases h) (by kernel_rfl) (fun _ h=>by cases h) storesErrors_row_tie rfl ⟨rfl,rfl⟩ (by kernel_rfl) rfl
    (fun f fn hf hfn=>by
      obtain rfl:f=3:=Option.some.inj ((show Tryz.prog.funcNamed "paternoster/paternosterlaw35.StoresErrors" =some 3 by kernel_rfl).symm.trans hf)|>.symm;obtain rfl:fn=Tryz.f3:=(Option.some.inj (Tryz.func3.symm.trans hfn)).symm;exact⟨by kernel_rfl,fun j t ht=>by
        rw[Tryz.params3]at ht;have h3:t=27∨t=34∨t=35:=by
          rcases j with _|_|_|j
          ·left;simpa using ht.symm
          ·right;left;simpa using ht.symm
          ·right;right;simpa using ht.symm
          ·simp at ht
        rcases h3 with rfl|rfl|rfl
        ·exact(show Tryz.prog.wantsStandIn 27=false by kernel_rfl)
        ·exact(show Tryz.prog.wantsStandIn 34=false by kernel_rfl)
        ·exact(show Tryz.prog.wantsStandIn 35=false by kernel_rfl)⟩)
    (by kernel_rfl)
end Go.Proofs.YtknldhlnhobdhaaGreatDoor
