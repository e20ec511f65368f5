/- An evaluator of the program, and contracts over it: ErTy to ErTy. -/
import Derived.Test.YtknldhlnhobdhaaGreatDoorP15
import Derived.Test.YtknldhlnhobdhaaGreatDoorP18
set_option linter.unusedSimpArgs false
set_option linter.unusedVariables false
set_option linter.constructorNameAsVariable false
set_option linter.unnecessarySimpa false
open Go.RowKit
namespace Go.Ev
namespace Lay
def gu2(p:Nat×Nat):List ni:=[(.u8,(p.1:Int)),(.u8,(p.2:Int))]
theorem settle_calls{W:World}{x y z:Value}{k vw off ov z0 z1 z2:Nat}{L:List (Nat×Nat×Nat×Nat)}{M:List Nat}{P:List (Nat×Nat)}(t:Tab W)(hk:k<256)(cx:rT W x 4 L.length (L.flatMap gq4))(hL:∀q∈L,q.1<256∧q.2.1<256∧q.2.2.1<256∧q.2.2.2<256)
    (cy:rT W y 1 M.length (M.flatMap gb8)) (hM:∀n∈M,n<256) (cz:rT W z 2 P.length (P.flatMap gu2)) (hP:∀p∈P,p.1<256∧p.2<256) (hvw:vw<256) (hoff:off<65536) (hov:ov<256) (hz0:z0<256) (hz1:z1<256) (hz2:z2<256):
    Calls Go.Proofs.Tryz.prog 4 #[.agg #[x,y,.int .u8 (k:Int)],.agg #[.int .u8 (vw:Int),.int .u16 (off:Int),.int .u8 (ov:Int),z],.agg #[.int .u8 (z0:Int),.int .u8 (z1:Int),.int .u8 (z2:Int)]] W fun e W'=>e=.returned (.bool true)∧Below W.heap.size W W':=by
  obtain⟨vs,Ms,Cs,l1,l2,l3,r1,r2,r3,r4⟩:=LC (W:=W) t [(x,4,L.length,L.flatMap gq4),(y,1,M.length,M.flatMap gb8),(z,2,P.length,P.flatMap gu2)] 2 (by simp[cx,cy,cz]);obtain⟨v0,v1,v2,rfl⟩:=DT l1;have hlen:Ms.length=Cs.length:=by rw[l2,l3]
  have H:r_ (mS Ms) (hS Cs) W:=Ph t hlen r2;have hG:V1 KP 1 (mS Ms):=Ou (fun i loc c h1 h2=>(r2 i loc c h1 h2).2.1) hlen;have rr:=r1 (mS Ms) (fun i loc h=>N5 h) rfl;have ss:=r3 (hS Cs) BE (fun i c h=>LY h);have a0:C_ q4 4 (hS Cs) v0 L:=by have:=ss 0 v0 _ rfl rfl;rw[qG (f:=q4) fun _=>rfl]at this;exact this
  have a1:C_ b8 1 (hS Cs) v1 M:=by have:=ss 1 v1 _ rfl rfl;rw[qG (f:=b8) fun _=>rfl]at this;exact this
  have a2:C_ uc 2 (hS Cs) v2 P:=by have:=ss 2 v2 _ rfl rfl;rw[qG (f:=uc) fun _=>rfl]at this;exact this
  obtain⟨u,h',e,rfl,ro',gl'⟩:=rS LX BE a0 hL a1 hM hk a2 hP hvw hoff hov hz0 hz1 hz2;obtain⟨_,SS⟩:=(Pt _ _ _ _ _ e).1 (by decide);obtain⟨_,e0,q0⟩:=rr 0 v0 rfl;obtain⟨_,e1,q1⟩:=rr 1 v1 rfl;obtain⟨_,e2,q2⟩:=rr 2 v2 rfl;cases e0;cases e1;cases e2;have rel:f_ (mS Ms) [.B [v0,v1,.A .u8 (k:Int)],.B [.A .u8 (vw:Int),.A .u16 (off:Int),.A .u8 (ov:Int),v2],.B [.A .u8 (z0:Int),.A .u8 (z1:Int),.A .u8 (z2:Int)]] [.agg #[x,y,.int .u8 (k:Int)],.agg #[.int .u8 (vw:Int),.int .u16 (off:Int),.int .u8 (ov:Int),z],.agg #[.int .u8 (z0:Int),.int .u8 (z1:Int),.int .u8 (z2:Int)]]:=
    ⟨_,_,rfl,⟨[x,y,.int .u8 (k:Int)],rfl,x,[y,.int .u8 (k:Int)],rfl,q0,y,[.int .u8 (k:Int)],rfl,q1,_,[],rfl,rfl,rfl⟩,_,_,rfl,⟨_,rfl,_,_,rfl,rfl,_,_,rfl,rfl,_,_,rfl,rfl,z,[],rfl,q2,rfl⟩,_,_,rfl,⟨_,rfl,_,_,rfl,rfl,_,_,rfl,rfl,_,[],rfl,rfl,rfl⟩,rfl⟩
  refine(SS (mS Ms) W _ rel H hG).1.mono ?_;rintro e' W' ⟨yv,m',he,ry,H',E⟩;have:yv=.bool true:=ry;subst this;refine⟨he,BV H H' E fun p loc hp'=>?_⟩;rcases mC hp' with⟨rfl,rfl⟩|⟨i,rfl,h1⟩
  ·exact⟨gq,.inl BE.I,.inl gl'.I,sQ,fun v hv=>by obtain⟨n,e⟩:=JI v hv;exact⟨_,_,e⟩⟩
  ·have hi:=(List.getElem?_eq_some_iff.1 h1).1;obtain⟨c',hc'⟩:∃c',Cs[i]? =some c':=⟨_,List.getElem?_eq_getElem (by omega)⟩;have rs:=LY hc';exact⟨c',.inr rs,.inr (ro' _ _ rs),(r2 i loc c' h1 hc').2.2.1,r4 c' (List.mem_of_getElem? hc')⟩
end Lay
end Go.Ev
