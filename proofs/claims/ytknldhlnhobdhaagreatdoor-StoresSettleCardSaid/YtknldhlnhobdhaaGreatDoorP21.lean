/- An evaluator of the program, and contracts over it: ErTw to ErTw. -/
import Derived.Test.YtknldhlnhobdhaaGreatDoorP19
import Derived.Test.YtknldhlnhobdhaaGreatDoorP20
set_option linter.unusedSimpArgs false
set_option linter.unusedVariables false
set_option linter.constructorNameAsVariable false
set_option linter.unnecessarySimpa false
namespace Go.Proofs.YtknldhlnhobdhaaGreatDoor
open Go.ChangeShapes Go.WideShapes Go.ChangeAt Go.WideMaps Go.WideElems Go.RowKit Go.Deep
open Go.Ev.Lay (Tab kA rT ni cX gq4 gb8 gu2)
section
variable {H : Type} {enc : TypeId × Value -> H} {W : World}
theorem c91:Tryz.prog.cellsOf 91=2:=by kernel_rfl
theorem c89:Tryz.prog.cellsOf 89=1:=by kernel_rfl
theorem c92:Tryz.prog.cellsOf 92=1:=by kernel_rfl
theorem c94:Tryz.prog.cellsOf 94=4:=by kernel_rfl
theorem OO:Tryz.prog.cellsOf 155=2:=by kernel_rfl
theorem el2(n:Nat)(cs:List Value)(y:DataW H×List MemPlace)(h:DataW.trod enc Tryz.prog W 0 (fun _=>true) true n 155 cs=some y):∃q:Nat×Nat,(q.1<256/\q.2<256)/\cs=(gu2 q).map cX:=by
  obtain⟨xs,m1,rfl,_,Z,hn,he⟩:=DataW.trod_array Tryz.underlying155 h;rw[OO]at Z;rw[c5]at he;have get:∀i,i<2->∃k:Nat,k<256/\cs[i]? =some (.int .u8 (k:Int)):=by
    intro i hi;have hx:xs[i]? =some (xs[i]'(by omega)):=List.getElem?_eq_getElem _;obtain⟨k0,K,_,w0⟩:=DataW.trod_int Tryz.underlying5 ((he i hi).trans hx);have b0:=bounds_u8 w0;obtain⟨kk,rfl⟩:∃n:Nat,k0=n:=⟨k0.toNat,by omega⟩;rw[Nat.mul_one]at K;exact⟨kk,by omega,oV K⟩
  obtain⟨a,ha,ea⟩:=get 0 (by omega);obtain⟨b,hb,eb⟩:=get 1 (by omega);refine⟨(a,b),⟨ha,hb⟩,?_⟩;obtain⟨v0,v1,rfl⟩:=two Z;obtain rfl:v0=_:=by simpa using ea
  obtain rfl:v1=_:=by simpa using eb
  rfl
/-- the plain data of a frame -/
theorem OM{n:Nat}{cs:List Value}{y:DataW H×List MemPlace}(h:DataW.trod enc Tryz.prog W 0 (fun _=>true) true n 94 cs=some y)(ar:∀b Z,MemPlace.cell b Z∈y.2->W.frozen? ⟨b,Z,none⟩=false):
    ∃(vw Z ov:Nat)(v:Value)(P:List (Nat×Nat)),cs=[.int .u8 (vw:Int),.int .u16 (Z:Int),.int .u8 (ov:Int),v]/\vw<256/\Z<65536/\ov<256/\rT W v 2 P.length (P.flatMap gu2)/\∀p∈P,p.1<256/\p.2<256:=by
  obtain⟨y0,y1,y2,K,rfl,hl,h0,h1,h2⟩:=trod_struct3 Tryz.underlying94 h;rw[c94]at hl;have an:DataW.trod enc Tryz.prog W 0 (fun _=>true) true K 91 ((cs.drop 0).take (Tryz.prog.cellsOf 91))=some y0:=h0;have ak:DataW.trod enc Tryz.prog W 0 (fun _=>true) true K 5 ((cs.drop 2).take (Tryz.prog.cellsOf 5))=some y1:=h1;have af:DataW.trod enc Tryz.prog W 0 (fun _=>true) true K 92 ((cs.drop 3).take (Tryz.prog.cellsOf 92))=some y2:=h2;rw[c91]at an;rw[c5]at ak;rw[c92]at af;obtain⟨v0,v1,v2,v3,rfl⟩:=KG hl;obtain⟨z0,z1,n2,_,_,g0,g1⟩:=trod_struct2 Tryz.underlying91 (show DataW.trod enc Tryz.prog W 0 (fun _=>true) true K 91 [v0,v1]=some y0 from an);have ac:DataW.trod enc Tryz.prog W 0 (fun _=>true) true n2 5 (([v0,v1].drop 0).take (Tryz.prog.cellsOf 5))=some z0:=g0;have ae:DataW.trod enc Tryz.prog W 0 (fun _=>true) true n2 89 (([v0,v1].drop 1).take (Tryz.prog.cellsOf 89))=some z1:=g1;rw[c5]at ac;rw[c89]at ae;obtain⟨vw,hv,rfl⟩:=KZ (show DataW.trod enc Tryz.prog W 0 (fun _=>true) true n2 5 [v0]=some z0 from ac);obtain⟨k1,e1,_,w1⟩:=DataW.trod_int Tryz.underlying89 ae;have b1:=bounds_u16 w1;obtain⟨Z,rfl⟩:∃n:Nat,k1=n:=⟨k1.toNat,by omega⟩;obtain rfl:v1=.int .u16 (Z:Int):=by have:[v1]=[.int .u16 (Z:Int)]:=e1;simpa using this
  obtain⟨ov,ho,rfl⟩:=KZ (show DataW.trod enc Tryz.prog W 0 (fun _=>true) true K 5 [v2]=some y1 from ak);obtain⟨P,c0,q0⟩:=II Tryz.underlying92 OO (by omega) (fun _=>rfl) el2 (show DataW.trod enc Tryz.prog W 0 (fun _=>true) true K 92 [v3]=some y2 from af) (fun b Z hm=>ar b Z (by simp[hm]));exact⟨vw,Z,ov,v3,P,rfl,hv,by omega,ho,c0,q0⟩
theorem c95:Tryz.prog.cellsOf 95=3:=by kernel_rfl
theorem el3(n:Nat)(cs:List Value)(y:DataW H×List MemPlace)(h:DataW.trod enc Tryz.prog W 0 (fun _=>true) true n 95 cs=some y):∃q:Nat×Nat×Nat,(q.1<256/\q.2.1<256/\q.2.2<256)/\cs=[.int .u8 (q.1:Int),.int .u8 (q.2.1:Int),.int .u8 (q.2.2:Int)]:=by
  obtain⟨xs,m1,rfl,_,Z,hn,he⟩:=DataW.trod_array Tryz.underlying95 h;rw[c95]at Z;rw[c5]at he;have get:∀i,i<3->∃k:Nat,k<256/\cs[i]? =some (.int .u8 (k:Int)):=by
    intro i hi;have hx:xs[i]? =some (xs[i]'(by omega)):=List.getElem?_eq_getElem _;obtain⟨k0,K,_,w0⟩:=DataW.trod_int Tryz.underlying5 ((he i hi).trans hx);have b0:=bounds_u8 w0;obtain⟨kk,rfl⟩:∃n:Nat,k0=n:=⟨k0.toNat,by omega⟩;rw[Nat.mul_one]at K;exact⟨kk,by omega,oV K⟩
  obtain⟨a,ha,ea⟩:=get 0 (by omega);obtain⟨b,hb,eb⟩:=get 1 (by omega);obtain⟨c,hc,ec⟩:=get 2 (by omega);refine⟨(a,b,c),⟨ha,hb,hc⟩,?_⟩;obtain⟨v0,v1,v2,rfl⟩:=sG Z;obtain rfl:v0=_:=by simpa using ea
  obtain rfl:v1=_:=by simpa using eb
  obtain rfl:v2=_:=by simpa using ec
  rfl
end
end Go.Proofs.YtknldhlnhobdhaaGreatDoor
