/-
  DERIVED. GIVEN WITH THE SEED: THE CARDS: each row of YtfhplbpjpmaoiaaGreatDoorRows.lean that lists a variable, with what it lists TIED to the program's text (the seventh form; the later family's looks); each row that meets fmt, with fmt's text TOLD by the authors' own Lean function (tested against real Go, not proved from fmt's source: count such statements apart). THE CARD IS WHAT COUNTS. Prove the row's statement (the work); the ties are given (YtfhplbpjpmaoiaaGreatDoorTie.lean); close each card by the builder's one call (the guide's Derived/Test/ToyasCard.lean, 'card_holds'). Laid BY PROGRAM, IN A SANDBOX (cutbox-door.mjs). By AI agents, Wed Nov 11 2026. No macro, syntax, notation, axiom, sorry.
-/
import Derived.Test.YtfhplbpjpmaoiaaGreatDoorRows
import GoSem.ClaimSeven
namespace Go.Proofs.YtfhplbpjpmaoiaaGreatDoor
namespace Rows

/-- THE TIED CARD OF 'paternosterlaw34.LayoutsKnown'. -/
def layoutsKnownCard : Claim7 := { stood := { row := layoutsKnownRow, standIns := [], harness := (true, "df1959a2318382bb92074abfa2bc69c74d18cf94375fe3b24e4ccf490c945f91"), looks := false }, kinds := [], alts := [], laidByText := true, laidKinds := [.data], laidTests := true, laidLooks := .later }
def LayoutsKnownCardSaid : Prop := Claim7.holds Tryz.pinned (.plain (OpenSpec.ofChange layoutsKnownSpec)) layoutsKnownCard

/-- THE TIED CARD OF 'paternosterlaw34.LayoutsSee'. -/
def layoutsSeeCard : Claim7 := { stood := { row := layoutsSeeRow, standIns := [], harness := (true, "df1959a2318382bb92074abfa2bc69c74d18cf94375fe3b24e4ccf490c945f91"), looks := false }, kinds := [], alts := [], laidByText := true, laidKinds := [.data], laidTests := true, laidLooks := .later }
def LayoutsSeeCardSaid : Prop := Claim7.holds Tryz.pinned (.plain (OpenSpec.ofChange layoutsSeeSpec)) layoutsSeeCard

/-- THE TIED CARD OF 'paternosterlaw34.LayoutsScript'. -/
def layoutsScriptCard : Claim7 := { stood := { row := layoutsScriptRow, standIns := [], harness := (true, "df1959a2318382bb92074abfa2bc69c74d18cf94375fe3b24e4ccf490c945f91"), looks := false }, kinds := [], alts := [], laidByText := true, laidKinds := [.data], laidTests := true, laidLooks := .later }
def LayoutsScriptCardSaid : Prop := Claim7.holds Tryz.pinned (.plain (OpenSpec.ofChange layoutsScriptSpec)) layoutsScriptCard

/-- THE TIED CARD OF 'paternosterlaw34.LayoutsErrors'. -/
def layoutsErrorsCard : Claim7 := { stood := { row := layoutsErrorsRow, standIns := [], harness := (true, "df1959a2318382bb92074abfa2bc69c74d18cf94375fe3b24e4ccf490c945f91"), looks := false }, kinds := [], alts := [], laidByText := true, laidKinds := [.data], laidTests := true, laidLooks := .later }
def LayoutsErrorsCardSaid : Prop := Claim7.holds Tryz.pinned (.plain (OpenSpec.ofChange layoutsErrorsSpec)) layoutsErrorsCard

/-- THE SECOND FORM's CARD OF 'paternosterlaw34.LayoutsKnown'. -/
def layoutsKnownUptoCard : Claim7 := { stood := { row := layoutsKnownUptoRow, standIns := [], harness := (true, "df1959a2318382bb92074abfa2bc69c74d18cf94375fe3b24e4ccf490c945f91"), looks := false }, kinds := [], alts := [], laidByText := true, laidKinds := [.data], laidTests := true, laidLooks := .later }
def LayoutsKnownUptoCardSaid : Prop := Claim7.holds Tryz.pinned (.plain (OpenSpec.upto layoutsKnownSpec)) layoutsKnownUptoCard

/-- THE SECOND FORM's CARD OF 'paternosterlaw34.LayoutsSee'. -/
def layoutsSeeUptoCard : Claim7 := { stood := { row := layoutsSeeUptoRow, standIns := [], harness := (true, "df1959a2318382bb92074abfa2bc69c74d18cf94375fe3b24e4ccf490c945f91"), looks := false }, kinds := [], alts := [], laidByText := true, laidKinds := [.data], laidTests := true, laidLooks := .later }
def LayoutsSeeUptoCardSaid : Prop := Claim7.holds Tryz.pinned (.plain (OpenSpec.upto layoutsSeeSpec)) layoutsSeeUptoCard

/-- THE SECOND FORM's CARD OF 'paternosterlaw34.LayoutsScript'. -/
def layoutsScriptUptoCard : Claim7 := { stood := { row := layoutsScriptUptoRow, standIns := [], harness := (true, "df1959a2318382bb92074abfa2bc69c74d18cf94375fe3b24e4ccf490c945f91"), looks := false }, kinds := [], alts := [], laidByText := true, laidKinds := [.data], laidTests := true, laidLooks := .later }
def LayoutsScriptUptoCardSaid : Prop := Claim7.holds Tryz.pinned (.plain (OpenSpec.upto layoutsScriptSpec)) layoutsScriptUptoCard

/-- THE SECOND FORM's CARD OF 'paternosterlaw34.LayoutsErrors'. -/
def layoutsErrorsUptoCard : Claim7 := { stood := { row := layoutsErrorsUptoRow, standIns := [], harness := (true, "df1959a2318382bb92074abfa2bc69c74d18cf94375fe3b24e4ccf490c945f91"), looks := false }, kinds := [], alts := [], laidByText := true, laidKinds := [.data], laidTests := true, laidLooks := .later }
def LayoutsErrorsUptoCardSaid : Prop := Claim7.holds Tryz.pinned (.plain (OpenSpec.upto layoutsErrorsSpec)) layoutsErrorsUptoCard
end Rows
end Go.Proofs.YtfhplbpjpmaoiaaGreatDoor
