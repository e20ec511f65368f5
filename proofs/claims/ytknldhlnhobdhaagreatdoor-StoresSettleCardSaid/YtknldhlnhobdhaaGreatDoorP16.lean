/- An evaluator of the program, and contracts over it: ErFn to ErFn. -/
import Derived.Test.YtknldhlnhobdhaaGreatDoorProg
import Derived.Test.YtknldhlnhobdhaaGreatDoorP05
set_option linter.unusedSimpArgs false
set_option linter.unusedVariables false
set_option linter.constructorNameAsVariable false
set_option linter.unnecessarySimpa false
noncomputable section
namespace Go.Ev
def T.a{α:Type}(p:Nat->α->Bool):T α->(Nat->Nat)->Bool
  |.e,_=>true
  |.n l v r,f=>(match v with|some x=>p (f 0) x|none=>true)&&(T.a p l (fun k=>f (2*k+1))&&T.a p r (fun k=>f (2*k+2)))
theorem T.b{α:Type}(p:Nat→α→Bool):∀(t:T α)(f:Nat→Nat)(i:Nat)(x:α),T.a p t f=true→t.c_ i=some x→p (f i) x=true
  |.e,_,_,_,_,h=>by cases h
  |.n l v r,f,i,x,a,h=>by
    simp only[T.a,Bool.and_eq_true]at a;obtain⟨a1,a2,a3⟩:=a;cases i with
    |zero=>rw[T.J?]at h;rw[h]at a1;exact a1
    |succ j=>
      rw[T.W0]at h;by_cases c:j%2=0
      ·rw[if_pos c]at h;have:=T.b p l _ (j/2) x a2 h;rwa[show 2*(j/2)+1=j+1 by omega]at this
      ·rw[if_neg c]at h;have:=T.b p r _ (j/2) x a3 h;rwa[show 2*(j/2)+2=j+1 by omega]at this
def T.f{α:Type}:T α->T α
  |.e=>.e
  |.n l _ _=>l
def T.g{α:Type}:T α->T α
  |.e=>.e
  |.n _ _ r=>r
def T.d{α:Type}(p:Nat->α->Bool)(t:T α)(k:Nat):Bool:=match t with
  |.n _ (some x) _=>p k x
  |_=>true
theorem T.c{α:Type}{p:Nat->α->Bool}{t:T α}{f:Nat->Nat}(h:T.d p t (f 0)=true)(Z:T.a p t.f (fun k=>f (2*k+1))=true)(K:T.a p t.g (fun k=>f (2*k+2))=true):T.a p t f=true:=by
  cases t with
  |e=>rfl
  |n l v r=>
    unfold T.a;rw[VY,VY];refine⟨?_,Z,K⟩;cases v with
    |none=>rfl
    |some x=>exact h
namespace Lay
abbrev ck:Nat->i_->Bool:=fun i x=>Db Go.Proofs.Tryz.prog 1 i x
theorem fa:T.a ck F.f.f (fun k=>2*(2*k+1)+1)=true:=by decide+kernel
theorem fb:T.a ck F.f.g (fun k=>2*(2*k+2)+1)=true:=by decide+kernel
theorem fc:T.a ck F.g.f (fun k=>2*(2*k+1)+2)=true:=by decide+kernel
theorem fd:T.a ck F.g.g (fun k=>2*(2*k+2)+2)=true:=by decide+kernel
theorem fe:T.d ck F 0=true/\T.d ck F.f 1=true/\T.d ck F.g 2=true:=by decide+kernel
theorem LZ:DG Go.Proofs.Tryz.prog 1 F:=fun f fn h=>T.b ck F id f fn (T.c fe.1 (T.c fe.2.1 fa fb) (T.c fe.2.2 fc fd)) h
theorem OB:Db Go.Proofs.Tryz.prog 1 5 fn5=true:=by decide+kernel
end Lay
end Go.Ev
