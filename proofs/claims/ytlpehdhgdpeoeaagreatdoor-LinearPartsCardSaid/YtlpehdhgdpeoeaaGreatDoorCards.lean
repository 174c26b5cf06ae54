/-
  DERIVED. GIVEN WITH THE SEED: THE CARDS: each row of YtlpehdhgdpeoeaaGreatDoorRows.lean that lists a variable, with what it lists TIED to the program's text (the seventh form; the later family's looks); each row that meets fmt, with fmt's text TOLD by the authors' own Lean function (tested against real Go, not proved from fmt's source: count such statements apart). THE CARD IS WHAT COUNTS. Prove the row's statement (the work); the ties are given (YtlpehdhgdpeoeaaGreatDoorTie.lean); close each card by the builder's one call (the guide's Derived/Test/ToyasCard.lean, 'card_holds'). Laid BY PROGRAM, IN A SANDBOX (cutbox-door.mjs). By AI agents, Wed Nov 11 2026. No macro, syntax, notation, axiom, sorry.
-/
import Derived.Test.YtlpehdhgdpeoeaaGreatDoorRows
import GoSem.ClaimSeven
namespace Go.Proofs.YtlpehdhgdpeoeaaGreatDoor
namespace Rows

/-- THE TIED CARD OF 'penstocklaw13.LinearFilters'. -/
def linearFiltersCard : Claim7 := { stood := { row := linearFiltersRow, standIns := [], harness := (true, "8990077f9f3435422354873ddd7e224c722e2e7f275048e81ec2f14531b0b396"), looks := true }, kinds := [], alts := [], laidByText := true, laidKinds := [.data, .handle, .pinned], laidTests := true, laidLooks := .later }
def LinearFiltersCardSaid : Prop := Claim7.holds Tryz.pinned (.plain (OpenSpec.ofChange linearFiltersSpec)) linearFiltersCard

/-- THE TIED CARD OF 'penstocklaw13.LinearSums'. -/
def linearSumsCard : Claim7 := { stood := { row := linearSumsRow, standIns := [], harness := (true, "8990077f9f3435422354873ddd7e224c722e2e7f275048e81ec2f14531b0b396"), looks := true }, kinds := [], alts := [], laidByText := true, laidKinds := [.data, .handle, .pinned], laidTests := true, laidLooks := .later }
def LinearSumsCardSaid : Prop := Claim7.holds Tryz.pinned (.plain (OpenSpec.ofChange linearSumsSpec)) linearSumsCard

/-- THE TIED CARD OF 'penstocklaw13.LinearParts'. -/
def linearPartsCard : Claim7 := { stood := { row := linearPartsRow, standIns := [], harness := (true, "8990077f9f3435422354873ddd7e224c722e2e7f275048e81ec2f14531b0b396"), looks := true }, kinds := [], alts := [], laidByText := true, laidKinds := [.data, .handle, .pinned], laidTests := true, laidLooks := .later }
def LinearPartsCardSaid : Prop := Claim7.holds Tryz.pinned (.plain (OpenSpec.ofChange linearPartsSpec)) linearPartsCard

/-- THE SECOND FORM's CARD OF 'penstocklaw13.LinearFilters'. -/
def linearFiltersUptoCard : Claim7 := { stood := { row := linearFiltersUptoRow, standIns := [], harness := (true, "8990077f9f3435422354873ddd7e224c722e2e7f275048e81ec2f14531b0b396"), looks := true }, kinds := [], alts := [], laidByText := true, laidKinds := [.data, .handle, .pinned], laidTests := true, laidLooks := .later }
def LinearFiltersUptoCardSaid : Prop := Claim7.holds Tryz.pinned (.plain (OpenSpec.upto linearFiltersSpec)) linearFiltersUptoCard

/-- THE SECOND FORM's CARD OF 'penstocklaw13.LinearSums'. -/
def linearSumsUptoCard : Claim7 := { stood := { row := linearSumsUptoRow, standIns := [], harness := (true, "8990077f9f3435422354873ddd7e224c722e2e7f275048e81ec2f14531b0b396"), looks := true }, kinds := [], alts := [], laidByText := true, laidKinds := [.data, .handle, .pinned], laidTests := true, laidLooks := .later }
def LinearSumsUptoCardSaid : Prop := Claim7.holds Tryz.pinned (.plain (OpenSpec.upto linearSumsSpec)) linearSumsUptoCard

/-- THE SECOND FORM's CARD OF 'penstocklaw13.LinearParts'. -/
def linearPartsUptoCard : Claim7 := { stood := { row := linearPartsUptoRow, standIns := [], harness := (true, "8990077f9f3435422354873ddd7e224c722e2e7f275048e81ec2f14531b0b396"), looks := true }, kinds := [], alts := [], laidByText := true, laidKinds := [.data, .handle, .pinned], laidTests := true, laidLooks := .later }
def LinearPartsUptoCardSaid : Prop := Claim7.holds Tryz.pinned (.plain (OpenSpec.upto linearPartsSpec)) linearPartsUptoCard
end Rows
end Go.Proofs.YtlpehdhgdpeoeaaGreatDoor
