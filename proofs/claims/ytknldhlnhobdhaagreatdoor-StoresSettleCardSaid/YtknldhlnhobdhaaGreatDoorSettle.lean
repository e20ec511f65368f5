/- StoresSettle: for every list of layer 24, every frame of layer 31, every choice of the anchor, and a loose frame or none, the law answers true, and the input reads as it did; conditions: none beyond the row. -/
import Derived.Test.YtknldhlnhobdhaaGreatDoorCards
import Derived.Test.YtknldhlnhobdhaaGreatDoorTie
import Derived.SevenTiedAt
import Derived.Test.YtknldhlnhobdhaaGreatDoorP22
set_option linter.unusedSimpArgs false
set_option linter.unusedVariables false
set_option linter.constructorNameAsVariable false
set_option linter.unnecessarySimpa false
namespace Go.Proofs.YtknldhlnhobdhaaGreatDoor
open Go.ChangeShapes Go.WideShapes Go.ChangeAt Go.WideMaps Go.WideElems Go.RowKit Go.Deep
open Go.Ev.Lay (Tab kA rT ni cX gq4 gb8 gu2)
theorem IR{cs:Array Value}(h:cs.size=4):∃x y z u,cs= #[x,y,z,u]:=by
  obtain⟨l⟩:=cs;match l,h with
  |[x,y,z,u],_=>exact⟨x,y,z,u,rfl⟩
theorem Is(os:Os)(args:Array Value):laidMetH Tryz.prog zR ((World.doorLaid Tryz.prog 400 os).forCall (fun _ _=>0) ⟨#[],args,[]⟩).memory:=
  laidMetH_of_parts3 (fuel:=8) (laidMet_of_run' 8 (by kernel_rfl) (by kernel_rfl)) (by kernel_rfl) (by kernel_rfl)
set_option maxRecDepth 100000 in
theorem uX(os:Os)(started:os.Started)(H:Type)(enc:TypeId×Value→H):
    ReturnsInHanded {} Tryz.checked os 4 .any (fun w args=>(Rows.storesSettleSpec.pre enc Tryz.prog Tryz.f4 [] false w args∧laidMetH Tryz.prog zR w)∧sizedMet enc Tryz.prog Tryz.f4 (OpenSpec.ofChange Rows.storesSettleSpec) false w args)
      (Rows.storesSettleSpec.post enc Tryz.prog Tryz.f4 false true false false):=by
  refine returnsInHanded_of_change_and (C:=Tryz.checked) (X:=fun w _=>laidMetH Tryz.prog zR w) (fun _ _ _ hh h=>h.of_heap hh) own started (by kernel_rfl) Tryz.func4
    (ChangeSpec.witness_shaped (enc:=enc) (C:=Tryz.checked) (os:=os) (X:=fun w _=>laidMetH Tryz.prog zR w) false (World.doorLaid Tryz.prog 400 os) #[.agg #[.slice none 0 0,.slice none 0 0,.int .u8 0],.agg #[.int .u8 0,.int .u16 0,.int .u8 0,.slice none 0 0],.agg #[.int .u8 0,.int .u8 0,.int .u8 0]] 8 rfl (World.shaped_of_RefB (by kernel_rfl) (by kernel_rfl)) (by kernel_rfl) (by kernel_rfl) (by kernel_rfl) (Is os _)) ?_
  intro W base args ds gs before hval0 hW _ _ hL _;have hval:∀(j:Nat) t v,Tryz.f4.params[j]? =some t→args[j]? =some v→Value.okWide Tryz.prog W .any base t v:=hval0;have hW':=hW;obtain⟨p,q,hA0,hV,rfl,hfz,hnd⟩:=hW;have hA:DataW.TrodAll enc Tryz.prog W 0 (fun _=>true) true Tryz.f4.params.toList args.toList ds p:=hA0;rw[Tryz.params4]at hA hval;obtain⟨v0,v1,v2,d0,d1,d2,p0,p1,p2,rfl,rfl,rfl,t0,t1,t2⟩:=trodAll_three hA;obtain⟨rfl,rfl⟩:=trodVars_none hV;obtain⟨cs0,rfl,hs0⟩:=okWide_struct Tryz.underlying27 (hval 0 27 v0 rfl rfl);rw[c27]at hs0;obtain⟨xa,xb,xc,rfl⟩:=wT hs0;obtain⟨cs1,rfl,hs1⟩:=okWide_struct Tryz.underlying94 (hval 1 94 v1 rfl rfl);rw[c94]at hs1;obtain⟨ya,yb,yc,yd,rfl⟩:=IR hs1;have hv2:=hval 2 95 v2 rfl rfl;simp only[Value.okWide,Tryz.underlying95]at hv2;obtain⟨cs2,rfl,hs2,_⟩:=hv2;rw[c95]at hs2;obtain⟨u0,u1,u2,rfl⟩:=wT hs2;have k0:=t0;have k1:=t1;have k2:=t2;obtain⟨fu0,hf0⟩:=t0;obtain⟨u,v,k,L,M,ec,hk,cx,hL',cy,hM⟩:=OK hf0 (fun b off hm=>hfz b off (by simp[hm]));have ec':[xa,xb,xc]=[u,v,.int .u8 (k:Int)]:=ec;simp only[List.cons.injEq,and_true]at ec';obtain⟨rfl,rfl,rfl⟩:=ec';obtain⟨fu1,hf1⟩:=t1;obtain⟨vw,off,ov,z,P,ed,hvw,hoff,hov,cz,hP⟩:=OM hf1 (fun b off hm=>hfz b off (by simp[hm]));have ed':[ya,yb,yc,yd]=[.int .u8 (vw:Int),.int .u16 (off:Int),.int .u8 (ov:Int),z]:=ed;simp only[List.cons.injEq,and_true]at ed';obtain⟨rfl,rfl,rfl,rfl⟩:=ed';obtain⟨fu2,hf2⟩:=t2;obtain⟨zz,hz,ez⟩:=el3 fu2 [u0,u1,u2] (d2,p2) hf2;obtain⟨z0,z1,z2⟩:=zz;have ez':[u0,u1,u2]=[.int .u8 (z0:Int),.int .u8 (z1:Int),.int .u8 (z2:Int)]:=ez;simp only[List.cons.injEq,and_true]at ez';obtain⟨rfl,rfl,rfl⟩:=ez';simp only[List.append_nil]at hW';have hlt:=hW'.lt;refine(Ev.Lay.settle_calls (J6 hL) hk cx hL' cy hM cz hP hvw hoff hov hz.1 hz.2.1 hz.2.2).mono fun e W' ⟨he,hB⟩=>?_;subst he;refine⟨_,rfl,_,_,_,[],p0++(p1++p2),[],hW',?_,?_,?_,hB.frame _,fun h=>by cases h⟩
  ·exact trodAll_mk1 (shut_bool Tryz.underlying4 true)
  ·exact trodAll_mk3 (Below.trod xV (by kernel_rfl) (of_decide_eq_true (by kernel_rfl)) k0 hB (fun y hy=>hlt y (by simp[hy]))) (Below.trod xV (by kernel_rfl) (of_decide_eq_true (by kernel_rfl)) k1 hB (fun y hy=>hlt y (by simp[hy]))) (Below.trod xV (by kernel_rfl) (of_decide_eq_true (by kernel_rfl)) k2 hB (fun y hy=>hlt y (by simp[hy])))
  ·rfl
theorem xJ:Rows.StoresSettleSaid:=
  OpenClaim.holds_of_wide 4 Tryz.f4 rfl rfl rfl rfl rfl rfl rfl ⟨rfl,rfl,rfl,rfl,rfl⟩ rfl rfl rfl rfl rfl ji Tryz.func4 jh
    (of_decide_eq_true (by kernel_rfl)) jj
    (fun os started H enc _=>uX os started H enc)
theorem settle_card:Rows.StoresSettleCardSaid:=
  Claim7.holds_tied_plain_at .later [] [.data] true (true,"d993391e40969475412f14835637d7ee822531f5fa8edd7a624e2e3875cb13ec") false
    xJ (fun _ h=>by cases h) (by kernel_rfl) (fun _ h=>by cases h) storesSettle_row_tie rfl ⟨rfl,rfl⟩ (by kernel_rfl) rfl
    (fun f fn hf hfn=>by
      obtain rfl:f=4:=Option.some.inj ((show Tryz.prog.funcNamed "paternoster/paternosterlaw35.StoresSettle" =some 4 by kernel_rfl).symm.trans hf)|>.symm;obtain rfl:fn=Tryz.f4:=(Option.some.inj (Tryz.func4.symm.trans hfn)).symm;exact⟨by kernel_rfl,fun j t ht=>by
        rw[Tryz.params4]at ht;have h3:t=27∨t=94∨t=95:=by
          rcases j with _|_|_|j
          ·left;simpa using ht.symm
          ·right;left;simpa using ht.symm
          ·right;right;simpa using ht.symm
          ·simp at ht
        rcases h3 with rfl|rfl|rfl
        ·exact(show Tryz.prog.wantsStandIn 27=false by kernel_rfl)
        ·exact(show Tryz.prog.wantsStandIn 94=false by kernel_rfl)
        ·exact(show Tryz.prog.wantsStandIn 95=false by kernel_rfl)⟩)
    (by kernel_rfl)
end Go.Proofs.YtknldhlnhobdhaaGreatDoor
