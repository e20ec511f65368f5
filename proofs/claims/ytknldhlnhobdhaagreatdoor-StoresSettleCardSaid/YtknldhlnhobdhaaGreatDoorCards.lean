/-
  DERIVED. GIVEN WITH THE SEED: THE CARDS: each row of YtknldhlnhobdhaaGreatDoorRows.lean that lists a variable, with what it lists TIED to the program's text (the seventh form; the later family's looks); each row that meets fmt, with fmt's text TOLD by the authors' own Lean function (tested against real Go, not proved from fmt's source: count such statements apart). THE CARD IS WHAT COUNTS. Prove the row's statement (the work); the ties are given (YtknldhlnhobdhaaGreatDoorTie.lean); close each card by the builder's one call (the guide's Derived/Test/ToyasCard.lean, 'card_holds'). Laid BY PROGRAM, IN A SANDBOX (cutbox-door.mjs). By AI agents, Wed Nov 11 2026. No macro, syntax, notation, axiom, sorry.
-/
import Derived.Test.YtknldhlnhobdhaaGreatDoorRows
import GoSem.ClaimSeven
namespace Go.Proofs.YtknldhlnhobdhaaGreatDoor
namespace Rows

/-- THE TIED CARD OF 'paternosterlaw35.StoresErrors'. -/
def storesErrorsCard : Claim7 := { stood := { row := storesErrorsRow, standIns := [], harness := (true, "d993391e40969475412f14835637d7ee822531f5fa8edd7a624e2e3875cb13ec"), looks := false }, kinds := [], alts := [], laidByText := true, laidKinds := [.data], laidTests := true, laidLooks := .later }
def StoresErrorsCardSaid : Prop := Claim7.holds Tryz.pinned (.plain (OpenSpec.ofChange storesErrorsSpec)) storesErrorsCard

/-- THE TIED CARD OF 'paternosterlaw35.StoresSettle'. -/
def storesSettleCard : Claim7 := { stood := { row := storesSettleRow, standIns := [], harness := (true, "d993391e40969475412f14835637d7ee822531f5fa8edd7a624e2e3875cb13ec"), looks := false }, kinds := [], alts := [], laidByText := true, laidKinds := [.data], laidTests := true, laidLooks := .later }
def StoresSettleCardSaid : Prop := Claim7.holds Tryz.pinned (.plain (OpenSpec.ofChange storesSettleSpec)) storesSettleCard

/-- THE SECOND FORM's CARD OF 'paternosterlaw35.StoresErrors'. -/
def storesErrorsUptoCard : Claim7 := { stood := { row := storesErrorsUptoRow, standIns := [], harness := (true, "d993391e40969475412f14835637d7ee822531f5fa8edd7a624e2e3875cb13ec"), looks := false }, kinds := [], alts := [], laidByText := true, laidKinds := [.data], laidTests := true, laidLooks := .later }
def StoresErrorsUptoCardSaid : Prop := Claim7.holds Tryz.pinned (.plain (OpenSpec.upto storesErrorsSpec)) storesErrorsUptoCard

/-- THE SECOND FORM's CARD OF 'paternosterlaw35.StoresSettle'. -/
def storesSettleUptoCard : Claim7 := { stood := { row := storesSettleUptoRow, standIns := [], harness := (true, "d993391e40969475412f14835637d7ee822531f5fa8edd7a624e2e3875cb13ec"), looks := false }, kinds := [], alts := [], laidByText := true, laidKinds := [.data], laidTests := true, laidLooks := .later }
def StoresSettleUptoCardSaid : Prop := Claim7.holds Tryz.pinned (.plain (OpenSpec.upto storesSettleSpec)) storesSettleUptoCard
end Rows
end Go.Proofs.YtknldhlnhobdhaaGreatDoor
