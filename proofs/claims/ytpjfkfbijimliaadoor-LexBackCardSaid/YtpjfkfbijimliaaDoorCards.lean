/-
  DERIVED. GIVEN WITH THE SEED: THE CARDS: each row of YtpjfkfbijimliaaDoorRows.lean that lists a variable, with what it lists TIED to the program's text (the seventh form; the later family's looks); each row that meets fmt, with fmt's text TOLD by the authors' own Lean function (tested against real Go, not proved from fmt's source: count such statements apart). THE CARD IS WHAT COUNTS. Prove the row's statement (the work); the ties are given (YtpjfkfbijimliaaDoorTie.lean); close each card by the builder's one call (the guide's Derived/Test/ToyasCard.lean, 'card_holds'). Laid BY PROGRAM, IN A SANDBOX (cutbox-door.mjs). By AI agents, Wed Nov 11 2026. No macro, syntax, notation, axiom, sorry.
-/
import Derived.Test.YtpjfkfbijimliaaDoorRows
import GoSem.ClaimSeven
namespace Go.Proofs.YtpjfkfbijimliaaDoor
namespace Rows

/-- THE TIED CARD OF 'penstocklaw16.LexLexes'. -/
def lexLexesCard : Claim7 := { stood := { row := lexLexesRow, standIns := [], harness := (true, "04f8ca9bb42f123148907d19bf429444fae0cb6b6abe5ee37712a3dab55c7f64"), looks := true }, kinds := [], alts := [], laidByText := true, laidKinds := [.data, .data, .data, .data, .sentinel, .sentinel, .listed, .data, .pinned], laidTests := true, laidLooks := .later }
def LexLexesCardSaid : Prop := Claim7.holds Tryd.pinned (.plain (OpenSpec.ofChange lexLexesSpec)) lexLexesCard

/-- THE TIED CARD OF 'penstocklaw16.LexBack'. -/
def lexBackCard : Claim7 := { stood := { row := lexBackRow, standIns := [], harness := (true, "04f8ca9bb42f123148907d19bf429444fae0cb6b6abe5ee37712a3dab55c7f64"), looks := true }, kinds := [], alts := [], laidByText := true, laidKinds := [.data, .data, .data, .data, .sentinel, .sentinel, .listed, .data, .pinned], laidTests := true, laidLooks := .later }
def LexBackCardSaid : Prop := Claim7.holds Tryd.pinned (.plain (OpenSpec.ofChange lexBackSpec)) lexBackCard

/-- THE TIED CARD OF 'penstocklaw16.LexAfter'. -/
def lexAfterCard : Claim7 := { stood := { row := lexAfterRow, standIns := [], harness := (true, "04f8ca9bb42f123148907d19bf429444fae0cb6b6abe5ee37712a3dab55c7f64"), looks := true }, kinds := [], alts := [], laidByText := true, laidKinds := [.data, .data, .data, .data, .sentinel, .sentinel, .listed, .data, .pinned], laidTests := true, laidLooks := .later }
def LexAfterCardSaid : Prop := Claim7.holds Tryd.pinned (.plain (OpenSpec.ofChange lexAfterSpec)) lexAfterCard

/-- THE TIED CARD OF 'penstocklaw16.LexPlaces'. -/
def lexPlacesCard : Claim7 := { stood := { row := lexPlacesRow, standIns := [], harness := (true, "04f8ca9bb42f123148907d19bf429444fae0cb6b6abe5ee37712a3dab55c7f64"), looks := true }, kinds := [], alts := [], laidByText := true, laidKinds := [.data, .data, .data, .data, .sentinel, .sentinel, .listed, .data, .pinned], laidTests := true, laidLooks := .later }
def LexPlacesCardSaid : Prop := Claim7.holds Tryd.pinned (.plain (OpenSpec.ofChange lexPlacesSpec)) lexPlacesCard

/-- THE TIED CARD OF 'penstocklaw16.LexKeeps'. -/
def lexKeepsCard : Claim7 := { stood := { row := lexKeepsRow, standIns := [], harness := (true, "04f8ca9bb42f123148907d19bf429444fae0cb6b6abe5ee37712a3dab55c7f64"), looks := true }, kinds := [], alts := [], laidByText := true, laidKinds := [.data, .data, .data, .data, .sentinel, .sentinel, .listed, .data, .pinned], laidTests := true, laidLooks := .later }
def LexKeepsCardSaid : Prop := Claim7.holds Tryd.pinned (.plain (OpenSpec.ofChange lexKeepsSpec)) lexKeepsCard

/-- THE TIED CARD OF 'penstocklaw16.LexBlanks'. -/
def lexBlanksCard : Claim7 := { stood := { row := lexBlanksRow, standIns := [], harness := (true, "04f8ca9bb42f123148907d19bf429444fae0cb6b6abe5ee37712a3dab55c7f64"), looks := true }, kinds := [], alts := [], laidByText := true, laidKinds := [.data, .data, .data, .data, .sentinel, .sentinel, .listed, .data, .pinned], laidTests := true, laidLooks := .later }
def LexBlanksCardSaid : Prop := Claim7.holds Tryd.pinned (.plain (OpenSpec.ofChange lexBlanksSpec)) lexBlanksCard

/-- THE TIED CARD OF 'penstocklaw16.LexCapitals'. -/
def lexCapitalsCard : Claim7 := { stood := { row := lexCapitalsRow, standIns := [], harness := (true, "04f8ca9bb42f123148907d19bf429444fae0cb6b6abe5ee37712a3dab55c7f64"), looks := true }, kinds := [], alts := [], laidByText := true, laidKinds := [.data, .data, .data, .data, .sentinel, .sentinel, .listed, .data, .pinned], laidTests := true, laidLooks := .later }
def LexCapitalsCardSaid : Prop := Claim7.holds Tryd.pinned (.plain (OpenSpec.ofChange lexCapitalsSpec)) lexCapitalsCard

/-- THE TIED CARD OF 'penstocklaw16.LexWords'. -/
def lexWordsCard : Claim7 := { stood := { row := lexWordsRow, standIns := [], harness := (true, "04f8ca9bb42f123148907d19bf429444fae0cb6b6abe5ee37712a3dab55c7f64"), looks := true }, kinds := [], alts := [], laidByText := true, laidKinds := [.data, .data, .data, .data, .sentinel, .sentinel, .listed, .data, .pinned], laidTests := true, laidLooks := .later }
def LexWordsCardSaid : Prop := Claim7.holds Tryd.pinned (.plain (OpenSpec.ofChange lexWordsSpec)) lexWordsCard

/-- THE SECOND FORM's CARD OF 'penstocklaw16.LexLexes'. -/
def lexLexesUptoCard : Claim7 := { stood := { row := lexLexesUptoRow, standIns := [], harness := (true, "04f8ca9bb42f123148907d19bf429444fae0cb6b6abe5ee37712a3dab55c7f64"), looks := true }, kinds := [], alts := [], laidByText := true, laidKinds := [.data, .data, .data, .data, .sentinel, .sentinel, .listed, .data, .pinned], laidTests := true, laidLooks := .later }
def LexLexesUptoCardSaid : Prop := Claim7.holds Tryd.pinned (.plain (OpenSpec.upto lexLexesSpec)) lexLexesUptoCard

/-- THE SECOND FORM's CARD OF 'penstocklaw16.LexBack'. -/
def lexBackUptoCard : Claim7 := { stood := { row := lexBackUptoRow, standIns := [], harness := (true, "04f8ca9bb42f123148907d19bf429444fae0cb6b6abe5ee37712a3dab55c7f64"), looks := true }, kinds := [], alts := [], laidByText := true, laidKinds := [.data, .data, .data, .data, .sentinel, .sentinel, .listed, .data, .pinned], laidTests := true, laidLooks := .later }
def LexBackUptoCardSaid : Prop := Claim7.holds Tryd.pinned (.plain (OpenSpec.upto lexBackSpec)) lexBackUptoCard

/-- THE SECOND FORM's CARD OF 'penstocklaw16.LexAfter'. -/
def lexAfterUptoCard : Claim7 := { stood := { row := lexAfterUptoRow, standIns := [], harness := (true, "04f8ca9bb42f123148907d19bf429444fae0cb6b6abe5ee37712a3dab55c7f64"), looks := true }, kinds := [], alts := [], laidByText := true, laidKinds := [.data, .data, .data, .data, .sentinel, .sentinel, .listed, .data, .pinned], laidTests := true, laidLooks := .later }
def LexAfterUptoCardSaid : Prop := Claim7.holds Tryd.pinned (.plain (OpenSpec.upto lexAfterSpec)) lexAfterUptoCard

/-- THE SECOND FORM's CARD OF 'penstocklaw16.LexPlaces'. -/
def lexPlacesUptoCard : Claim7 := { stood := { row := lexPlacesUptoRow, standIns := [], harness := (true, "04f8ca9bb42f123148907d19bf429444fae0cb6b6abe5ee37712a3dab55c7f64"), looks := true }, kinds := [], alts := [], laidByText := true, laidKinds := [.data, .data, .data, .data, .sentinel, .sentinel, .listed, .data, .pinned], laidTests := true, laidLooks := .later }
def LexPlacesUptoCardSaid : Prop := Claim7.holds Tryd.pinned (.plain (OpenSpec.upto lexPlacesSpec)) lexPlacesUptoCard

/-- THE SECOND FORM's CARD OF 'penstocklaw16.LexKeeps'. -/
def lexKeepsUptoCard : Claim7 := { stood := { row := lexKeepsUptoRow, standIns := [], harness := (true, "04f8ca9bb42f123148907d19bf429444fae0cb6b6abe5ee37712a3dab55c7f64"), looks := true }, kinds := [], alts := [], laidByText := true, laidKinds := [.data, .data, .data, .data, .sentinel, .sentinel, .listed, .data, .pinned], laidTests := true, laidLooks := .later }
def LexKeepsUptoCardSaid : Prop := Claim7.holds Tryd.pinned (.plain (OpenSpec.upto lexKeepsSpec)) lexKeepsUptoCard

/-- THE SECOND FORM's CARD OF 'penstocklaw16.LexBlanks'. -/
def lexBlanksUptoCard : Claim7 := { stood := { row := lexBlanksUptoRow, standIns := [], harness := (true, "04f8ca9bb42f123148907d19bf429444fae0cb6b6abe5ee37712a3dab55c7f64"), looks := true }, kinds := [], alts := [], laidByText := true, laidKinds := [.data, .data, .data, .data, .sentinel, .sentinel, .listed, .data, .pinned], laidTests := true, laidLooks := .later }
def LexBlanksUptoCardSaid : Prop := Claim7.holds Tryd.pinned (.plain (OpenSpec.upto lexBlanksSpec)) lexBlanksUptoCard

/-- THE SECOND FORM's CARD OF 'penstocklaw16.LexCapitals'. -/
def lexCapitalsUptoCard : Claim7 := { stood := { row := lexCapitalsUptoRow, standIns := [], harness := (true, "04f8ca9bb42f123148907d19bf429444fae0cb6b6abe5ee37712a3dab55c7f64"), looks := true }, kinds := [], alts := [], laidByText := true, laidKinds := [.data, .data, .data, .data, .sentinel, .sentinel, .listed, .data, .pinned], laidTests := true, laidLooks := .later }
def LexCapitalsUptoCardSaid : Prop := Claim7.holds Tryd.pinned (.plain (OpenSpec.upto lexCapitalsSpec)) lexCapitalsUptoCard

/-- THE SECOND FORM's CARD OF 'penstocklaw16.LexWords'. -/
def lexWordsUptoCard : Claim7 := { stood := { row := lexWordsUptoRow, standIns := [], harness := (true, "04f8ca9bb42f123148907d19bf429444fae0cb6b6abe5ee37712a3dab55c7f64"), looks := true }, kinds := [], alts := [], laidByText := true, laidKinds := [.data, .data, .data, .data, .sentinel, .sentinel, .listed, .data, .pinned], laidTests := true, laidLooks := .later }
def LexWordsUptoCardSaid : Prop := Claim7.holds Tryd.pinned (.plain (OpenSpec.upto lexWordsSpec)) lexWordsUptoCard
end Rows
end Go.Proofs.YtpjfkfbijimliaaDoor
