/- An evaluator of the program, and contracts over it: KnFn to KnFn. -/
import Derived.Test.YtdbfhmneijcjbaaGreatProg
import Derived.Test.YtdbfhmneijcjbaaGreatP05
set_option linter.unusedSimpArgs false
set_option linter.unusedVariables false
set_option linter.constructorNameAsVariable false
set_option linter.unnecessarySimpa false
namespace Go.Ev
noncomputable def T.bk{α:Type}(p:Nat->α->Bool):T α->(Nat->Nat)->Bool
 |.e,_=>true
 |.n l v r,f=>(match v with|some x=>p (f 0) x|none=>true)&&(T.bk p l (fun k=>f (2*k+1))&&T.bk p r (fun k=>f (2*k+2)))
theorem T.aD{α:Type}(p:Nat→α→Bool):∀(t:T α)(f:Nat→Nat)(i:Nat)(x:α),T.bk p t f=true→t.c_ i=some x→p (f i) x=true
 |.e,_,_,_,_,h=>by cases h
 |.n l v r,f,i,x,a,h=>by
  simp only[T.bk,Bool.and_eq_true]at a;let⟨a1,a2,a3⟩:=a;cases i with
  |zero=>rw[T.ZJ]at h;rw[h]at a1;exact a1
  |succ j=>rw[T.V2]at h;by_cases c:j%2=0;rw[if_pos c]at h;have:=T.aD p l _ (j/2) x a2 h;rwa[show 2*(j/2)+1=j+1 by omega]at this;rw[if_neg c]at h;have:=T.aD p r _ (j/2) x a3 h;rwa[show 2*(j/2)+2=j+1 by omega]at this
namespace Lay
theorem LU:Ec Go.Proofs.Tryz.prog 0 F:=fun f fn h=>T.aD (fun i x=>DA Go.Proofs.Tryz.prog 0 i x) F id f fn (by decide+kernel) h
theorem MV:DA Go.Proofs.Tryz.prog 0 15 fn15=true:=by decide+kernel
end Lay
end Go.Ev
