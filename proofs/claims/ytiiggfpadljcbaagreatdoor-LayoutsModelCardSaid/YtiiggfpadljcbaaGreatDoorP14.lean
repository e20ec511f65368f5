/- An evaluator of the program, and contracts over it: LmFn to LmFn. -/
import Derived.Test.YtiiggfpadljcbaaGreatDoorProg
import Derived.Test.YtiiggfpadljcbaaGreatDoorP05
set_option linter.unusedSimpArgs false
set_option linter.unusedVariables false
set_option linter.constructorNameAsVariable false
set_option linter.unnecessarySimpa false
namespace Go.Ev
noncomputable def T.allI{α:Type}(p:Nat→α→Bool):T α→(Nat→Nat)→Bool
  |.e,_=>true
  |.n l v r,f=>(match v with|some x=>p (f 0) x|none=>true)&&(T.allI p l (fun k=>f (2*k+1))&&T.allI p r (fun k=>f (2*k+2)))
theorem T.allI_get{α:Type}(p:Nat→α→Bool):∀(t:T α)(f:Nat→Nat)(i:Nat)(x:α),T.allI p t f=true→t.get i=some x→p (f i) x=true
  |.e,_,_,_,_,h=>by cases h
  |.n l v r,f,i,x,a,h=>by
    simp only[T.allI,Bool.and_eq_true]at a;obtain⟨a1,a2,a3⟩:=a;cases i with
    |zero=>rw[T.get_n0]at h;rw[h]at a1;exact a1
    |succ j=>
      rw[T.get_nS]at h;by_cases c:j%2=0
      ·rw[if_pos c]at h;have:=T.allI_get p l _ (j/2) x a2 h;rwa[show 2*(j/2)+1=j+1 by omega]at this
      ·rw[if_neg c]at h;have:=T.allI_get p r _ (j/2) x a3 h;rwa[show 2*(j/2)+2=j+1 by omega]at this
namespace Lay
theorem H9:AD Go.Proofs.Tryz.prog 1 F:=fun f fn h=>T.allI_get (fun i x=>Ae Go.Proofs.Tryz.prog 1 i x) F id f fn (by decide+kernel) h
theorem I5:Ae Go.Proofs.Tryz.prog 1 13 fn13=true:=by decide+kernel
end Lay
end Go.Ev
