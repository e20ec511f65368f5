/-
  DERIVED. GIVEN WITH THE SEED: THE CARDS: each row of YthhhghfnhbocnaaGreatDoorRows.lean that lists a variable, with what it lists TIED to the program's text (the seventh form; the later family's looks); each row that meets fmt, with fmt's text TOLD by the authors' own Lean function (tested against real Go, not proved from fmt's source: count such statements apart). THE CARD IS WHAT COUNTS. Prove the row's statement (the work); the ties are given (YthhhghfnhbocnaaGreatDoorTie.lean); close each card by the builder's one call (the guide's Derived/Test/ToyasCard.lean, 'card_holds'). Laid BY PROGRAM, IN A SANDBOX (cutbox-door.mjs). By AI agents, Wed Nov 11 2026. No macro, syntax, notation, axiom, sorry.
-/
import Derived.Test.YthhhghfnhbocnaaGreatDoorRows
import GoSem.ClaimSeven
namespace Go.Proofs.YthhhghfnhbocnaaGreatDoor
namespace Rows

/-- THE TIED CARD OF 'paternosterlaw39.SnapshotsMeets'. -/
def snapshotsMeetsCard : Claim7 := { stood := { row := snapshotsMeetsRow, standIns := [], harness := (true, "945ccd373a565ad676907d0c06803ff84c55f22ba87e273e86ee60155b68577d"), looks := true }, kinds := [], alts := [], laidByText := true, laidKinds := [.data, .data, .data], laidTests := true, laidLooks := .later }
def SnapshotsMeetsCardSaid : Prop := Claim7.holds Tryz.pinned (.plain (OpenSpec.ofChange snapshotsMeetsSpec)) snapshotsMeetsCard

/-- THE TIED CARD OF 'paternosterlaw39.SnapshotsText'. -/
def snapshotsTextCard : Claim7 := { stood := { row := snapshotsTextRow, standIns := [], harness := (true, "945ccd373a565ad676907d0c06803ff84c55f22ba87e273e86ee60155b68577d"), looks := true }, kinds := [], alts := [], laidByText := true, laidKinds := [.data, .data, .data], laidTests := true, laidLooks := .later }
def SnapshotsTextCardSaid : Prop := Claim7.holds Tryz.pinned (.plain (OpenSpec.ofChange snapshotsTextSpec)) snapshotsTextCard

/-- THE TIED CARD OF 'paternosterlaw39.SnapshotsDiffer'. -/
def snapshotsDifferCard : Claim7 := { stood := { row := snapshotsDifferRow, standIns := [], harness := (true, "945ccd373a565ad676907d0c06803ff84c55f22ba87e273e86ee60155b68577d"), looks := true }, kinds := [], alts := [], laidByText := true, laidKinds := [.data, .data, .data], laidTests := true, laidLooks := .later }
def SnapshotsDifferCardSaid : Prop := Claim7.holds Tryz.pinned (.plain (OpenSpec.ofChange snapshotsDifferSpec)) snapshotsDifferCard

/-- THE SECOND FORM's CARD OF 'paternosterlaw39.SnapshotsMeets'. -/
def snapshotsMeetsUptoCard : Claim7 := { stood := { row := snapshotsMeetsUptoRow, standIns := [], harness := (true, "945ccd373a565ad676907d0c06803ff84c55f22ba87e273e86ee60155b68577d"), looks := true }, kinds := [], alts := [], laidByText := true, laidKinds := [.data, .data, .data], laidTests := true, laidLooks := .later }
def SnapshotsMeetsUptoCardSaid : Prop := Claim7.holds Tryz.pinned (.plain (OpenSpec.upto snapshotsMeetsSpec)) snapshotsMeetsUptoCard

/-- THE SECOND FORM's CARD OF 'paternosterlaw39.SnapshotsText'. -/
def snapshotsTextUptoCard : Claim7 := { stood := { row := snapshotsTextUptoRow, standIns := [], harness := (true, "945ccd373a565ad676907d0c06803ff84c55f22ba87e273e86ee60155b68577d"), looks := true }, kinds := [], alts := [], laidByText := true, laidKinds := [.data, .data, .data], laidTests := true, laidLooks := .later }
def SnapshotsTextUptoCardSaid : Prop := Claim7.holds Tryz.pinned (.plain (OpenSpec.upto snapshotsTextSpec)) snapshotsTextUptoCard

/-- THE SECOND FORM's CARD OF 'paternosterlaw39.SnapshotsDiffer'. -/
def snapshotsDifferUptoCard : Claim7 := { stood := { row := snapshotsDifferUptoRow, standIns := [], harness := (true, "945ccd373a565ad676907d0c06803ff84c55f22ba87e273e86ee60155b68577d"), looks := true }, kinds := [], alts := [], laidByText := true, laidKinds := [.data, .data, .data], laidTests := true, laidLooks := .later }
def SnapshotsDifferUptoCardSaid : Prop := Claim7.holds Tryz.pinned (.plain (OpenSpec.upto snapshotsDifferSpec)) snapshotsDifferUptoCard
end Rows
end Go.Proofs.YthhhghfnhbocnaaGreatDoor
