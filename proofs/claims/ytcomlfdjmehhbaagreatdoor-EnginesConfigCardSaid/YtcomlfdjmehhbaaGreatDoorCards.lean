/-
  DERIVED. GIVEN WITH THE SEED: THE CARDS: each row of YtcomlfdjmehhbaaGreatDoorRows.lean that lists a variable, with what it lists TIED to the program's text (the seventh form; the later family's looks); each row that meets fmt, with fmt's text TOLD by the authors' own Lean function (tested against real Go, not proved from fmt's source: count such statements apart). THE CARD IS WHAT COUNTS. Prove the row's statement (the work); the ties are given (YtcomlfdjmehhbaaGreatDoorTie.lean); close each card by the builder's one call (the guide's Derived/Test/ToyasCard.lean, 'card_holds'). Laid BY PROGRAM, IN A SANDBOX (cutbox-door.mjs). By AI agents, Wed Nov 11 2026. No macro, syntax, notation, axiom, sorry.
-/
import Derived.Test.YtcomlfdjmehhbaaGreatDoorRows
import GoSem.ClaimSeven
namespace Go.Proofs.YtcomlfdjmehhbaaGreatDoor
namespace Rows

/-- THE TIED CARD OF 'paternosterlaw38.EnginesConfig'. -/
def enginesConfigCard : Claim7 := { stood := { row := enginesConfigRow, standIns := [], harness := (true, "11e18e4c1f589a097b7e4edec42ba64933a263a220cb5d5e7234dd387d0d563d"), looks := false }, kinds := [], alts := [], laidByText := true, laidKinds := [.data], laidTests := true, laidLooks := .later }
def EnginesConfigCardSaid : Prop := Claim7.holds Tryz.pinned (.plain (OpenSpec.ofChange enginesConfigSpec)) enginesConfigCard

/-- THE SECOND FORM's CARD OF 'paternosterlaw38.EnginesConfig'. -/
def enginesConfigUptoCard : Claim7 := { stood := { row := enginesConfigUptoRow, standIns := [], harness := (true, "11e18e4c1f589a097b7e4edec42ba64933a263a220cb5d5e7234dd387d0d563d"), looks := false }, kinds := [], alts := [], laidByText := true, laidKinds := [.data], laidTests := true, laidLooks := .later }
def EnginesConfigUptoCardSaid : Prop := Claim7.holds Tryz.pinned (.plain (OpenSpec.upto enginesConfigSpec)) enginesConfigUptoCard
end Rows
end Go.Proofs.YtcomlfdjmehhbaaGreatDoor
