/- An evaluator of the program, and contracts over it: RxCl to RxCl. -/
import Derived.Test.YteojfkejdhhhpaaGreatDoorRows
set_option linter.unusedSimpArgs false
set_option linter.unusedVariables false
set_option linter.constructorNameAsVariable false
set_option linter.unnecessarySimpa false
namespace Go.Proofs.YteojfkejdhhhpaaGreatDoor
open Go
def clM(P:Program):Nat->List FuncId->List FuncId->Nat->List FuncId
  |0,_,seen,_=>seen.reverse
  |_+1,[],seen,_=>seen.reverse
  |n+1,f::todo,seen,m=>cond (Nat.testBit m f) (clM P n todo seen m) (clM P n ((P.funcs[f]?).elim [] P.leadsTo++todo) (f::seen) (Nat.lor m (Nat.pow 2 f)))
theorem BT(P:Program):∀n todo seen m,(∀x,Nat.testBit m x=seen.contains x)→P.closureVia n todo seen=clM P n todo seen m
  |0,todo,seen,m,_=>by cases todo<;>rfl
  |n+1,[],seen,m,_=>rfl
  |n+1,f::todo,seen,m,h=>by
    have ht:=h f;unfold Program.closureVia clM;rw[ht];cases e:seen.contains f with
    |true=>simp only[if_true,cond_true];exact BT P n todo seen m h
    |false=>
      simp only[Bool.false_eq_true,if_false,cond_false];refine BT P n _ _ _ fun x=>?_;show Nat.testBit (m|||2^f) x=_
      rw[Nat.testBit_or,Nat.testBit_two_pow,h x,List.contains_cons];by_cases q:f=x
      ·subst q;simp
      ·have:(x==f)=false:=by simpa using fun e=>q e.symm
       rw[this,decide_eq_false q,Bool.or_false,Bool.false_or]
theorem clo(P:Program)(f:FuncId):P.closure f=clM P (1+(P.funcs.toList.map fun g=>(P.leadsTo g).length+1).sum) [f] [] 0:=
  BT P _ _ _ 0 fun x=>by simp
end Go.Proofs.YteojfkejdhhhpaaGreatDoor
