/-
  DERIVED. GIVEN WITH THE SEED: THE CARDS: each row of YtiiggfpadljcbaaGreatDoorRows.lean that lists a variable, with what it lists TIED to the program's text (the seventh form; the later family's looks); each row that meets fmt, with fmt's text TOLD by the authors' own Lean function (tested against real Go, not proved from fmt's source: count such statements apart). THE CARD IS WHAT COUNTS. Prove the row's statement (the work); the ties are given (YtiiggfpadljcbaaGreatDoorTie.lean); close each card by the builder's one call (the guide's Derived/Test/ToyasCard.lean, 'card_holds'). Laid BY PROGRAM, IN A SANDBOX (cutbox-door.mjs). By AI agents, Wed Nov 11 2026. No macro, syntax, notation, axiom, sorry.
-/
import Derived.Test.YtiiggfpadljcbaaGreatDoorRows
import GoSem.ClaimSeven
namespace Go.Proofs.YtiiggfpadljcbaaGreatDoor
namespace Rows

/-- THE TIED CARD OF 'paternosterlaw34.LayoutsModel'. -/
def layoutsModelCard : Claim7 := { stood := { row := layoutsModelRow, standIns := [], harness := (true, "c50840ba8d502a23a223ec19a4867516aea872c6941f8df0c4a2480be50ea5b8"), looks := false }, kinds := [], alts := [], laidByText := true, laidKinds := [.data], laidTests := true, laidLooks := .later }
def LayoutsModelCardSaid : Prop := Claim7.holds Tryz.pinned (.plain (OpenSpec.ofChange layoutsModelSpec)) layoutsModelCard

/-- THE SECOND FORM's CARD OF 'paternosterlaw34.LayoutsModel'. -/
def layoutsModelUptoCard : Claim7 := { stood := { row := layoutsModelUptoRow, standIns := [], harness := (true, "c50840ba8d502a23a223ec19a4867516aea872c6941f8df0c4a2480be50ea5b8"), looks := false }, kinds := [], alts := [], laidByText := true, laidKinds := [.data], laidTests := true, laidLooks := .later }
def LayoutsModelUptoCardSaid : Prop := Claim7.holds Tryz.pinned (.plain (OpenSpec.upto layoutsModelSpec)) layoutsModelUptoCard
end Rows
end Go.Proofs.YtiiggfpadljcbaaGreatDoor
