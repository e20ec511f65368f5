/- An evaluator of the program, and contracts over it: EcSy to EcSy. -/
import Derived.Test.YtcomlfdjmehhbaaGreatDoorP09
import Derived.Test.YtcomlfdjmehhbaaGreatDoorP10
import Derived.Test.YtcomlfdjmehhbaaGreatDoorP13
set_option linter.unusedSimpArgs false
set_option linter.unusedVariables false
set_option linter.constructorNameAsVariable false
set_option linter.unnecessarySimpa false
open Go.RowKit
namespace Go.Ev
theorem VsRel.split{m:M}:∀{a b:List V}{z:List Value},VsRel m (a++b) z→∃x y,z=x++y∧VsRel m a x∧VsRel m b y
  |[],_,z,h=>⟨[],z,rfl,rfl,h⟩
  |v::a,b,z,h=>by
    obtain⟨v',vs',rfl,h1,h2⟩:=h;obtain⟨x,y,rfl,h3,h4⟩:=VsRel.split h2;exact⟨v'::x,y,rfl,⟨v',x,rfl,h1,h3⟩,h4⟩
namespace Lay
theorem config_calls{W:World}{xs ys:List Value}{c:Cfg}{x0 x1 x2 x3 x4:V}{m:Nat}{Ms:List (Option Loc)}{Cs:List (List V)}(T:Tell W 2 (c.cells++[x0,x1,x2,x3,x4]) (xs++ys) Ms Cs)(lx:xs.length=7)(hf:c.flaw<256)
    (ra:∀h,HasR h 2 Cs→CfH h c) (hm:aP .lenS [x3]=some (.int .i64 (m:Int))) (mm:m<9223372036854775808):
    Calls Go.Proofs.Tryz.prog 3 #[.agg xs.toArray,.agg ys.toArray] W fun e W'=>e=.returned (.bool true)∧Below W.heap.size W W':=by
  have has:Has (mS Ms) 2 Ms:=fun i loc h=>yg h;have H:HRel (mS Ms) (hS Cs) W:=zq T.l (T.a _ has);have hlen:=T.l;have hG:Glob KP 0 (mS Ms):=by
    refine⟨fun g hg=>absurd hg (Nat.not_lt_zero g),fun p loc g hp hlp=>?_⟩;obtain⟨i,rfl,h⟩:=eX hp;have hi:=(List.getElem?_eq_some_iff.1 h).1;have:=(T.a _ has i loc _ h (List.getElem?_eq_getElem (by omega))).1;rw[this]at hlp;cases hlp
  have cf:=ra (hS Cs) fun i c h=>wR h;obtain⟨u,h',e,rfl,F⟩:=hH (x0:=x0) (x1:=x1) (x2:=x2) (x4:=x4) wQ cf hf hm mm;obtain⟨_,SS⟩:=(zC _ _ _ _ _ e).1 (by decide);obtain⟨x,y,exy,r1,r2⟩:=VsRel.split (T.v _ has);have l1:x.length=7:=r1.length;obtain⟨rfl,rfl⟩:=List.append_inj exy (by rw[lx,l1]);have rel:VsRel (mS Ms) [.agg c.cells,.agg [x0,x1,x2,x3,x4]] [.agg xs.toArray,.agg ys.toArray]:=⟨_,_,rfl,⟨xs,rfl,r1⟩,_,_,rfl,⟨ys,rfl,r2⟩,rfl⟩;refine(SS (mS Ms) W _ rel H hG).1.mono ?_;rintro e' W' ⟨yv,m',he,ry,H',E⟩;have:yv=.bool true:=ry;subst this;refine⟨he,uz H H' E fun p loc hp'=>?_⟩;obtain⟨i,rfl,h1⟩:=eX hp';have hi:=(List.getElem?_eq_some_iff.1 h1).1;obtain⟨c',hc'⟩:∃c',Cs[i]? =some c':=⟨_,List.getElem?_eq_getElem (by omega)⟩;have rs:=wR hc';exact⟨c',.inr rs,.inr (F.ro _ _ rs),(T.a _ has i loc c' h1 hc').2.1,T.e c' (List.mem_of_getElem? hc')⟩
end Lay
end Go.Ev
