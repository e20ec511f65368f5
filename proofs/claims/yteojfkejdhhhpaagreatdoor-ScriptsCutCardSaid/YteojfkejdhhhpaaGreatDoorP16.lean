/- An evaluator of the program, and contracts over it: SmFn to SmFn. -/
import Derived.Test.YteojfkejdhhhpaaGreatDoorProg
import Derived.Test.YteojfkejdhhhpaaGreatDoorP05
import Derived.Test.YteojfkejdhhhpaaGreatDoorP15
set_option linter.unusedSimpArgs false
set_option linter.unusedVariables false
set_option linter.constructorNameAsVariable false
set_option linter.unnecessarySimpa false
noncomputable section
namespace Go.Ev
def T.allI{α:Type}(p:Nat->α->Bool):T α->(Nat->Nat)->Bool
  |.e,_=>true
  |.n l v r,f=>(match v with|some x=>p (f 0) x|none=>true)&&(T.allI p l (fun k=>f (2*k+1))&&T.allI p r (fun k=>f (2*k+2)))
theorem T.allI_get{α:Type}(p:Nat→α→Bool):∀(t:T α)(f:Nat→Nat)(i:Nat)(x:α),T.allI p t f=true→t.get i=some x→p (f i) x=true
  |.e,_,_,_,_,h=>by cases h
  |.n l v r,f,i,x,a,h=>by
    simp only[T.allI,Bool.and_eq_true]at a;obtain⟨a1,a2,a3⟩:=a;cases i with
    |zero=>rw[T.get_n0]at h;rw[h]at a1;exact a1
    |succ j=>
      rw[T.get_nS]at h;by_cases c:j%2=0
      ·rw[if_pos c]at h;have:=T.allI_get p l _ (j/2) x a2 h;rwa[show 2*(j/2)+1=j+1 by omega]at this
      ·rw[if_neg c]at h;have:=T.allI_get p r _ (j/2) x a3 h;rwa[show 2*(j/2)+2=j+1 by omega]at this
def T.lc{α:Type}:T α->T α
  |.e=>.e
  |.n l _ _=>l
def T.rc{α:Type}:T α->T α
  |.e=>.e
  |.n _ _ r=>r
def T.vOK{α:Type}(p:Nat->α->Bool)(t:T α)(k:Nat):Bool:=match t with
  |.n _ (some x) _=>p k x
  |_=>true
theorem T.allI_of{α:Type}{p:Nat->α->Bool}{t:T α}{f:Nat->Nat}(h:T.vOK p t (f 0)=true)(Z:T.allI p t.lc (fun k=>f (2*k+1))=true)(U:T.allI p t.rc (fun k=>f (2*k+2))=true):T.allI p t f=true:=by
  cases t with
  |e=>rfl
  |n l v r=>
    unfold T.allI;rw[be,be];refine⟨?_,Z,U⟩;cases v with
    |none=>rfl
    |some x=>exact h
namespace Lay
abbrev ck:Nat->IFn->Bool:=fun i x=>nw Go.Proofs.Tryz.prog 5 i x
theorem fa:T.allI ck F.lc.lc (fun k=>2*(2*k+1)+1)=true:=by decide+kernel
theorem fb:T.allI ck F.lc.rc (fun k=>2*(2*k+2)+1)=true:=by decide+kernel
theorem fc:T.allI ck F.rc.lc (fun k=>2*(2*k+1)+2)=true:=by decide+kernel
theorem fd:T.allI ck F.rc.rc (fun k=>2*(2*k+2)+2)=true:=by decide+kernel
theorem fe:T.vOK ck F 0=true/\T.vOK ck F.lc 1=true/\T.vOK ck F.rc 2=true:=by decide+kernel
theorem wc:DT Go.Proofs.Tryz.prog 5 F:=fun f fn h=>T.allI_get ck F id f fn (T.allI_of fe.1 (T.allI_of fe.2.1 fa fb) (T.allI_of fe.2.2 fc fd)) h
theorem Nv:nw Go.Proofs.Tryz.prog 5 10 fn10=true:=by decide+kernel
theorem O2:nw Go.Proofs.Tryz.prog 5 9 fn9=true:=by decide+kernel
theorem Or:tH Go.Proofs.Tryz.prog 5 33 6 fn33=true:=by decide+kernel
end Lay
end Go.Ev
