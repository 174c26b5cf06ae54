/-
  DERIVED. GIVEN WITH THE SEED: THE CARDS: each row of YtolikaginhjbhaaDoorRows.lean that lists a variable, with what it lists TIED to the program's text (the seventh form; the later family's looks); each row that meets fmt, with fmt's text TOLD by the authors' own Lean function (tested against real Go, not proved from fmt's source: count such statements apart). THE CARD IS WHAT COUNTS. Prove the row's statement (the work); the ties are given (YtolikaginhjbhaaDoorTie.lean); close each card by the builder's one call (the guide's Derived/Test/ToyasCard.lean, 'card_holds'). Laid BY PROGRAM, IN A SANDBOX (cutbox-door.mjs). By AI agents, Wed Nov 11 2026. No macro, syntax, notation, axiom, sorry.
-/
import Derived.Test.YtolikaginhjbhaaDoorRows
import GoSem.ClaimSeven
namespace Go.Proofs.YtolikaginhjbhaaDoor
namespace Rows

/-- THE TIED CARD OF 'penstocklaw03.ExprPicked'. -/
def exprPickedCard : Claim7 := { stood := { row := exprPickedRow, standIns := [], harness := (true, "72955879fd8a3dababc9f0dcac73b62c8554c94f3d5adbdd0f5bb177da6f2804"), looks := true }, kinds := [], alts := [], laidByText := true, laidKinds := [.data, .handle, .pinned], laidTests := true, laidLooks := .later }
def ExprPickedCardSaid : Prop := Claim7.holds Tryd.pinned (.plain (OpenSpec.ofChange exprPickedSpec)) exprPickedCard

/-- THE TIED CARD OF 'penstocklaw03.ExprTyped'. -/
def exprTypedCard : Claim7 := { stood := { row := exprTypedRow, standIns := [], harness := (true, "72955879fd8a3dababc9f0dcac73b62c8554c94f3d5adbdd0f5bb177da6f2804"), looks := true }, kinds := [], alts := [], laidByText := true, laidKinds := [.data, .handle, .pinned], laidTests := true, laidLooks := .later }
def ExprTypedCardSaid : Prop := Claim7.holds Tryd.pinned (.plain (OpenSpec.ofChange exprTypedSpec)) exprTypedCard

/-- THE SECOND FORM's CARD OF 'penstocklaw03.ExprPicked'. -/
def exprPickedUptoCard : Claim7 := { stood := { row := exprPickedUptoRow, standIns := [], harness := (true, "72955879fd8a3dababc9f0dcac73b62c8554c94f3d5adbdd0f5bb177da6f2804"), looks := true }, kinds := [], alts := [], laidByText := true, laidKinds := [.data, .handle, .pinned], laidTests := true, laidLooks := .later }
def ExprPickedUptoCardSaid : Prop := Claim7.holds Tryd.pinned (.plain (OpenSpec.upto exprPickedSpec)) exprPickedUptoCard

/-- THE SECOND FORM's CARD OF 'penstocklaw03.ExprTyped'. -/
def exprTypedUptoCard : Claim7 := { stood := { row := exprTypedUptoRow, standIns := [], harness := (true, "72955879fd8a3dababc9f0dcac73b62c8554c94f3d5adbdd0f5bb177da6f2804"), looks := true }, kinds := [], alts := [], laidByText := true, laidKinds := [.data, .handle, .pinned], laidTests := true, laidLooks := .later }
def ExprTypedUptoCardSaid : Prop := Claim7.holds Tryd.pinned (.plain (OpenSpec.upto exprTypedSpec)) exprTypedUptoCard
end Rows
end Go.Proofs.YtolikaginhjbhaaDoor
