/-
  DERIVED. GIVEN WITH THE SEED: THE CARDS: each row of YtolikaginhjbhaaGreatDoorRows.lean that lists a variable, with what it lists TIED to the program's text (the seventh form; the later family's looks); each row that meets fmt, with fmt's text TOLD by the authors' own Lean function (tested against real Go, not proved from fmt's source: count such statements apart). THE CARD IS WHAT COUNTS. Prove the row's statement (the work); the ties are given (YtolikaginhjbhaaGreatDoorTie.lean); close each card by the builder's one call (the guide's Derived/Test/ToyasCard.lean, 'card_holds'). Laid BY PROGRAM, IN A SANDBOX (cutbox-door.mjs). By AI agents, Wed Nov 11 2026. No macro, syntax, notation, axiom, sorry.
-/
import Derived.Test.YtolikaginhjbhaaGreatDoorRows
import GoSem.ClaimSeven
namespace Go.Proofs.YtolikaginhjbhaaGreatDoor
namespace Rows

/-- THE TIED CARD OF 'penstocklaw03.ExprEvals'. -/
def exprEvalsCard : Claim7 := { stood := { row := exprEvalsRow, standIns := [], harness := (true, "6f2013753108741bf06b7e5893f904c18d0d5c589619ae5aec4a9f45c177aea4"), looks := true }, kinds := [], alts := [], laidByText := true, laidKinds := [.data, .handle, .pinned], laidTests := true, laidLooks := .later }
def ExprEvalsCardSaid : Prop := Claim7.holds Tryz.pinned (.plain (OpenSpec.ofChange exprEvalsSpec)) exprEvalsCard

/-- THE TIED CARD OF 'penstocklaw03.ExprTurns'. -/
def exprTurnsCard : Claim7 := { stood := { row := exprTurnsRow, standIns := [], harness := (true, "6f2013753108741bf06b7e5893f904c18d0d5c589619ae5aec4a9f45c177aea4"), looks := true }, kinds := [], alts := [], laidByText := true, laidKinds := [.data, .handle, .pinned], laidTests := true, laidLooks := .later }
def ExprTurnsCardSaid : Prop := Claim7.holds Tryz.pinned (.plain (OpenSpec.ofChange exprTurnsSpec)) exprTurnsCard

/-- THE TIED CARD OF 'penstocklaw03.ExprLazy'. -/
def exprLazyCard : Claim7 := { stood := { row := exprLazyRow, standIns := [], harness := (true, "6f2013753108741bf06b7e5893f904c18d0d5c589619ae5aec4a9f45c177aea4"), looks := true }, kinds := [], alts := [], laidByText := true, laidKinds := [.data, .handle, .pinned], laidTests := true, laidLooks := .later }
def ExprLazyCardSaid : Prop := Claim7.holds Tryz.pinned (.plain (OpenSpec.ofChange exprLazySpec)) exprLazyCard

/-- THE TIED CARD OF 'penstocklaw03.ExprKeeps'. -/
def exprKeepsCard : Claim7 := { stood := { row := exprKeepsRow, standIns := [], harness := (true, "6f2013753108741bf06b7e5893f904c18d0d5c589619ae5aec4a9f45c177aea4"), looks := true }, kinds := [], alts := [], laidByText := true, laidKinds := [.data, .handle, .pinned], laidTests := true, laidLooks := .later }
def ExprKeepsCardSaid : Prop := Claim7.holds Tryz.pinned (.plain (OpenSpec.ofChange exprKeepsSpec)) exprKeepsCard

/-- THE TIED CARD OF 'penstocklaw03.ExprChecks'. -/
def exprChecksCard : Claim7 := { stood := { row := exprChecksRow, standIns := [], harness := (true, "6f2013753108741bf06b7e5893f904c18d0d5c589619ae5aec4a9f45c177aea4"), looks := true }, kinds := [], alts := [], laidByText := true, laidKinds := [.data, .data, .data, .data, .handle, .pinned], laidTests := true, laidLooks := .later }
def ExprChecksCardSaid : Prop := Claim7.holds Tryz.pinned (.plain (OpenSpec.ofChange exprChecksSpec)) exprChecksCard

/-- THE SECOND FORM's CARD OF 'penstocklaw03.ExprEvals'. -/
def exprEvalsUptoCard : Claim7 := { stood := { row := exprEvalsUptoRow, standIns := [], harness := (true, "6f2013753108741bf06b7e5893f904c18d0d5c589619ae5aec4a9f45c177aea4"), looks := true }, kinds := [], alts := [], laidByText := true, laidKinds := [.data, .handle, .pinned], laidTests := true, laidLooks := .later }
def ExprEvalsUptoCardSaid : Prop := Claim7.holds Tryz.pinned (.plain (OpenSpec.upto exprEvalsSpec)) exprEvalsUptoCard

/-- THE SECOND FORM's CARD OF 'penstocklaw03.ExprTurns'. -/
def exprTurnsUptoCard : Claim7 := { stood := { row := exprTurnsUptoRow, standIns := [], harness := (true, "6f2013753108741bf06b7e5893f904c18d0d5c589619ae5aec4a9f45c177aea4"), looks := true }, kinds := [], alts := [], laidByText := true, laidKinds := [.data, .handle, .pinned], laidTests := true, laidLooks := .later }
def ExprTurnsUptoCardSaid : Prop := Claim7.holds Tryz.pinned (.plain (OpenSpec.upto exprTurnsSpec)) exprTurnsUptoCard

/-- THE SECOND FORM's CARD OF 'penstocklaw03.ExprLazy'. -/
def exprLazyUptoCard : Claim7 := { stood := { row := exprLazyUptoRow, standIns := [], harness := (true, "6f2013753108741bf06b7e5893f904c18d0d5c589619ae5aec4a9f45c177aea4"), looks := true }, kinds := [], alts := [], laidByText := true, laidKinds := [.data, .handle, .pinned], laidTests := true, laidLooks := .later }
def ExprLazyUptoCardSaid : Prop := Claim7.holds Tryz.pinned (.plain (OpenSpec.upto exprLazySpec)) exprLazyUptoCard

/-- THE SECOND FORM's CARD OF 'penstocklaw03.ExprKeeps'. -/
def exprKeepsUptoCard : Claim7 := { stood := { row := exprKeepsUptoRow, standIns := [], harness := (true, "6f2013753108741bf06b7e5893f904c18d0d5c589619ae5aec4a9f45c177aea4"), looks := true }, kinds := [], alts := [], laidByText := true, laidKinds := [.data, .handle, .pinned], laidTests := true, laidLooks := .later }
def ExprKeepsUptoCardSaid : Prop := Claim7.holds Tryz.pinned (.plain (OpenSpec.upto exprKeepsSpec)) exprKeepsUptoCard

/-- THE SECOND FORM's CARD OF 'penstocklaw03.ExprChecks'. -/
def exprChecksUptoCard : Claim7 := { stood := { row := exprChecksUptoRow, standIns := [], harness := (true, "6f2013753108741bf06b7e5893f904c18d0d5c589619ae5aec4a9f45c177aea4"), looks := true }, kinds := [], alts := [], laidByText := true, laidKinds := [.data, .data, .data, .data, .handle, .pinned], laidTests := true, laidLooks := .later }
def ExprChecksUptoCardSaid : Prop := Claim7.holds Tryz.pinned (.plain (OpenSpec.upto exprChecksSpec)) exprChecksUptoCard
end Rows
end Go.Proofs.YtolikaginhjbhaaGreatDoor
