/-
  DERIVED. GIVEN WITH THE SEED: THE CARDS: each row of YteojfkejdhhhpaaGreatDoorRows.lean that lists a variable, with what it lists TIED to the program's text (the seventh form; the later family's looks); each row that meets fmt, with fmt's text TOLD by the authors' own Lean function (tested against real Go, not proved from fmt's source: count such statements apart). THE CARD IS WHAT COUNTS. Prove the row's statement (the work); the ties are given (YteojfkejdhhhpaaGreatDoorTie.lean); close each card by the builder's one call (the guide's Derived/Test/ToyasCard.lean, 'card_holds'). Laid BY PROGRAM, IN A SANDBOX (cutbox-door.mjs). By AI agents, Wed Nov 11 2026. No macro, syntax, notation, axiom, sorry.
-/
import Derived.Test.YteojfkejdhhhpaaGreatDoorRows
import GoSem.ClaimSeven
namespace Go.Proofs.YteojfkejdhhhpaaGreatDoor
namespace Rows

/-- THE TIED CARD OF 'paternosterlaw42.ScriptsText'. -/
def scriptsTextCard : Claim7 := { stood := { row := scriptsTextRow, standIns := [], harness := (true, "fe5b6ee2bc16fdbe220c8c5232efc3e838a2bade035a1801d389b383a0796ce1"), looks := true }, kinds := [], alts := [], laidByText := true, laidKinds := [.data, .data, .data, .data, .sentinel, .sentinel, .data, .pinned], laidTests := true, laidLooks := .later }
def ScriptsTextCardSaid : Prop := Claim7.holds Tryz.pinned (.plain (OpenSpec.ofChange scriptsTextSpec)) scriptsTextCard

/-- THE TIED CARD OF 'paternosterlaw42.ScriptsCut'. -/
def scriptsCutCard : Claim7 := { stood := { row := scriptsCutRow, standIns := [], harness := (true, "fe5b6ee2bc16fdbe220c8c5232efc3e838a2bade035a1801d389b383a0796ce1"), looks := true }, kinds := [], alts := [], laidByText := true, laidKinds := [.data, .data, .data, .data, .sentinel, .sentinel, .data, .pinned], laidTests := true, laidLooks := .later }
def ScriptsCutCardSaid : Prop := Claim7.holds Tryz.pinned (.plain (OpenSpec.ofChange scriptsCutSpec)) scriptsCutCard

/-- THE SECOND FORM's CARD OF 'paternosterlaw42.ScriptsText'. -/
def scriptsTextUptoCard : Claim7 := { stood := { row := scriptsTextUptoRow, standIns := [], harness := (true, "fe5b6ee2bc16fdbe220c8c5232efc3e838a2bade035a1801d389b383a0796ce1"), looks := true }, kinds := [], alts := [], laidByText := true, laidKinds := [.data, .data, .data, .data, .sentinel, .sentinel, .data, .pinned], laidTests := true, laidLooks := .later }
def ScriptsTextUptoCardSaid : Prop := Claim7.holds Tryz.pinned (.plain (OpenSpec.upto scriptsTextSpec)) scriptsTextUptoCard

/-- THE SECOND FORM's CARD OF 'paternosterlaw42.ScriptsCut'. -/
def scriptsCutUptoCard : Claim7 := { stood := { row := scriptsCutUptoRow, standIns := [], harness := (true, "fe5b6ee2bc16fdbe220c8c5232efc3e838a2bade035a1801d389b383a0796ce1"), looks := true }, kinds := [], alts := [], laidByText := true, laidKinds := [.data, .data, .data, .data, .sentinel, .sentinel, .data, .pinned], laidTests := true, laidLooks := .later }
def ScriptsCutUptoCardSaid : Prop := Claim7.holds Tryz.pinned (.plain (OpenSpec.upto scriptsCutSpec)) scriptsCutUptoCard
end Rows
end Go.Proofs.YteojfkejdhhhpaaGreatDoor
