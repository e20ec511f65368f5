/- An evaluator of the program, and contracts over it: SmS to SmS. -/
import Derived.Test.YteojfkejdhhhpaaGreatDoorP16
set_option linter.unusedSimpArgs false
set_option linter.unusedVariables false
set_option linter.constructorNameAsVariable false
set_option linter.unnecessarySimpa false
noncomputable section
namespace Go.Ev.Lay
set_option maxRecDepth 100000
/-- the package's variables alone -/
def ff:Nat->List V
  |0=>pZ
  |_=>bS
def h0:Heap:={bl:=(T.e.set 0 (Blk.row (ff 0) 0 0)).set 2 (.row (ff 2) 2 0),fams:=.e,tys:=.e,next:=3}
def Mw:aD:=fun _ _ _=>none
def wJ:aD:=evF Mw F 60
def CF:aD:=Ba wJ (Hu wJ (Hu wJ (Hu wJ Mw 73 0 fn73) 69 73 fn69) 34 69 fn34) 10 34 33 6 fn10 fn33
def FL:T IFn:=F.set 9 fn9
def Mf(h:Heap):Bool:=[0,2].all fun g=>match h.bl.get g,h.fams.get g with
  |some (.row c f _),none=>mE c (ff g)&&Nat.beq f g
  |_,_=>false
def Oq:Bool:=match evF CF FL 60 9 [] h0 with
  |some (.bool true,h)=>Mf h
  |_=>false
theorem Eo:Oq=true:=by decide+kernel
end Go.Ev.Lay
