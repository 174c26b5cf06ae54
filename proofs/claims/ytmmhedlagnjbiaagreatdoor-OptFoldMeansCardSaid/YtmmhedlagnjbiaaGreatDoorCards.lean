/-
  DERIVED. GIVEN WITH THE SEED: THE CARDS: each row of YtmmhedlagnjbiaaGreatDoorRows.lean that lists a variable, with what it lists TIED to the program's text (the seventh form; the later family's looks); each row that meets fmt, with fmt's text TOLD by the authors' own Lean function (tested against real Go, not proved from fmt's source: count such statements apart). THE CARD IS WHAT COUNTS. Prove the row's statement (the work); the ties are given (YtmmhedlagnjbiaaGreatDoorTie.lean); close each card by the builder's one call (the guide's Derived/Test/ToyasCard.lean, 'card_holds'). Laid BY PROGRAM, IN A SANDBOX (cutbox-door.mjs). By AI agents, Wed Nov 11 2026. No macro, syntax, notation, axiom, sorry.
-/
import Derived.Test.YtmmhedlagnjbiaaGreatDoorRows
import GoSem.ClaimSeven
namespace Go.Proofs.YtmmhedlagnjbiaaGreatDoor
namespace Rows

/-- THE TIED CARD OF 'penstocklaw21.OptFolds'. -/
def optFoldsCard : Claim7 := { stood := { row := optFoldsRow, standIns := [], harness := (true, "5c45839c09033f7568c62e0e9156390c01575cdb07aebef87c7afbde30f3427d"), looks := true }, kinds := [], alts := [], laidByText := true, laidKinds := [.data, .handle, .pinned], laidTests := true, laidLooks := .later }
def OptFoldsCardSaid : Prop := Claim7.holds Tryz.pinned (.plain (OpenSpec.ofChange optFoldsSpec)) optFoldsCard

/-- THE TIED CARD OF 'penstocklaw21.OptFoldMeans'. -/
def optFoldMeansCard : Claim7 := { stood := { row := optFoldMeansRow, standIns := [], harness := (true, "5c45839c09033f7568c62e0e9156390c01575cdb07aebef87c7afbde30f3427d"), looks := true }, kinds := [], alts := [], laidByText := true, laidKinds := [.data, .handle, .pinned], laidTests := true, laidLooks := .later }
def OptFoldMeansCardSaid : Prop := Claim7.holds Tryz.pinned (.plain (OpenSpec.ofChange optFoldMeansSpec)) optFoldMeansCard

/-- THE SECOND FORM's CARD OF 'penstocklaw21.OptFolds'. -/
def optFoldsUptoCard : Claim7 := { stood := { row := optFoldsUptoRow, standIns := [], harness := (true, "5c45839c09033f7568c62e0e9156390c01575cdb07aebef87c7afbde30f3427d"), looks := true }, kinds := [], alts := [], laidByText := true, laidKinds := [.data, .handle, .pinned], laidTests := true, laidLooks := .later }
def OptFoldsUptoCardSaid : Prop := Claim7.holds Tryz.pinned (.plain (OpenSpec.upto optFoldsSpec)) optFoldsUptoCard

/-- THE SECOND FORM's CARD OF 'penstocklaw21.OptFoldMeans'. -/
def optFoldMeansUptoCard : Claim7 := { stood := { row := optFoldMeansUptoRow, standIns := [], harness := (true, "5c45839c09033f7568c62e0e9156390c01575cdb07aebef87c7afbde30f3427d"), looks := true }, kinds := [], alts := [], laidByText := true, laidKinds := [.data, .handle, .pinned], laidTests := true, laidLooks := .later }
def OptFoldMeansUptoCardSaid : Prop := Claim7.holds Tryz.pinned (.plain (OpenSpec.upto optFoldMeansSpec)) optFoldMeansUptoCard
end Rows
end Go.Proofs.YtmmhedlagnjbiaaGreatDoor
