/- An evaluator of the program, and contracts over it: TxW to TxW. -/
import Derived.Test.YthhhghfnhbocnaaGreatDoorP06
import Derived.Test.YthhhghfnhbocnaaGreatDoorP07
set_option linter.unusedSimpArgs false
set_option linter.unusedVariables false
set_option linter.constructorNameAsVariable false
set_option linter.unnecessarySimpa false
namespace Go.Ev.Lay
def fn45 : IFn := ⟨1, .seq (.ops [⟨none, .p .mv [.c (.str [])], some 2⟩]) (.seq (.ops [⟨none, .bs [(.str [])] [(0, 1), (1, 1), (2, 1), (3, 1)] 4 [.c (.str [92]), .c (.str [92, 92]), .c (.str [34]), .c (.str [92, 34])], none⟩, ⟨none, .cf 71 [.l 0], none⟩, ⟨none, .cf 72 [.l 0, .v 0], none⟩, ⟨none, .p (.sb .add) [.c (.str [34]), .l 0], none⟩, ⟨none, .p (.sb .add) [.l 0, .c (.str [34])], none⟩, ⟨none, .p .mv [.l 0], some 2⟩]) (.ret)), [.t 2], [0, 2]⟩
noncomputable def F45w : T IFn := F.set 45 fn45
noncomputable def h0 : Heap := ⟨(T.e : T Blk).set 0 (.row tab10 0 0), 1, .e, .e⟩
noncomputable def kept0 (h : Heap) : Bool := match h.bl.get 0, h.fams.get 0 with
  | some (.row c f _), none => vEq (.agg c) (.agg tab10) && Nat.beq f 0
  | _, _ => false
noncomputable def runQ (w : List UInt8) : Bool := match evFF (fun _ _ _ => none) F45w 60 45 [.str w] h0 with
  | some (v, h) => vEq v (.str (quo w)) && kept0 h
  | _ => false
theorem runQ_all : words.all runQ = true := by decide +kernel
end Go.Ev.Lay
