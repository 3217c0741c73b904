/-
  DERIVED. GIVEN WITH THE SEED: THE CARDS: each row of YtncoappagcameaaDoorRows.lean that lists a variable, with what it lists TIED to the program's text (the seventh form; the later family's looks); each row that meets fmt, with fmt's text TOLD by the authors' own Lean function (tested against real Go, not proved from fmt's source: count such statements apart). THE CARD IS WHAT COUNTS. Prove the row's statement (the work); the ties are given (YtncoappagcameaaDoorTie.lean); close each card by the builder's one call (the guide's Derived/Test/ToyasCard.lean, 'card_holds'). Laid BY PROGRAM, IN A SANDBOX (cutbox-door.mjs). By AI agents, Wed Nov 11 2026. No macro, syntax, notation, axiom, sorry.
-/
import Derived.Test.YtncoappagcameaaDoorRows
import GoSem.ClaimSeven
namespace Go.Proofs.YtncoappagcameaaDoor
namespace Rows

/-- THE TIED CARD OF 'rejoinderlaw10.LineTexts'. -/
def lineTextsCard : Claim7 := { stood := { row := lineTextsRow, standIns := [], harness := (true, "c0cc65f085ba64ce6d3eafd80bd48aed531f4dcc8e9ef8728fde224d4aa9c2dd"), looks := false }, kinds := [], alts := [], laidByText := true, laidKinds := [.data, .pinned], laidTests := true, laidLooks := .later }
def LineTextsCardSaid : Prop := Claim7.holds Tryd.pinned (.plain (OpenSpec.ofChange lineTextsSpec)) lineTextsCard

/-- THE TIED CARD OF 'rejoinderlaw10.LineKinds'. -/
def lineKindsCard : Claim7 := { stood := { row := lineKindsRow, standIns := [], harness := (true, "c0cc65f085ba64ce6d3eafd80bd48aed531f4dcc8e9ef8728fde224d4aa9c2dd"), looks := false }, kinds := [], alts := [], laidByText := true, laidKinds := [.data, .pinned], laidTests := true, laidLooks := .later }
def LineKindsCardSaid : Prop := Claim7.holds Tryd.pinned (.plain (OpenSpec.ofChange lineKindsSpec)) lineKindsCard

/-- THE TIED CARD OF 'rejoinderlaw10.LineAll'. -/
def lineAllCard : Claim7 := { stood := { row := lineAllRow, standIns := [], harness := (true, "c0cc65f085ba64ce6d3eafd80bd48aed531f4dcc8e9ef8728fde224d4aa9c2dd"), looks := false }, kinds := [], alts := [], laidByText := true, laidKinds := [.data, .pinned], laidTests := true, laidLooks := .later }
def LineAllCardSaid : Prop := Claim7.holds Tryd.pinned (.plain (OpenSpec.ofChange lineAllSpec)) lineAllCard

/-- THE TIED CARD OF 'rejoinderlaw10.LineBack'. -/
def lineBackCard : Claim7 := { stood := { row := lineBackRow, standIns := [], harness := (true, "c0cc65f085ba64ce6d3eafd80bd48aed531f4dcc8e9ef8728fde224d4aa9c2dd"), looks := false }, kinds := [], alts := [], laidByText := true, laidKinds := [.data, .pinned], laidTests := true, laidLooks := .later }
def LineBackCardSaid : Prop := Claim7.holds Tryd.pinned (.plain (OpenSpec.ofChange lineBackSpec)) lineBackCard

/-- THE TIED CARD OF 'rejoinderlaw10.LineMatches'. -/
def lineMatchesCard : Claim7 := { stood := { row := lineMatchesRow, standIns := [], harness := (true, "c0cc65f085ba64ce6d3eafd80bd48aed531f4dcc8e9ef8728fde224d4aa9c2dd"), looks := false }, kinds := [], alts := [], laidByText := true, laidKinds := [.data, .pinned], laidTests := true, laidLooks := .later }
def LineMatchesCardSaid : Prop := Claim7.holds Tryd.pinned (.plain (OpenSpec.ofChange lineMatchesSpec)) lineMatchesCard

/-- THE SECOND FORM's CARD OF 'rejoinderlaw10.LineTexts'. -/
def lineTextsUptoCard : Claim7 := { stood := { row := lineTextsUptoRow, standIns := [], harness := (true, "c0cc65f085ba64ce6d3eafd80bd48aed531f4dcc8e9ef8728fde224d4aa9c2dd"), looks := false }, kinds := [], alts := [], laidByText := true, laidKinds := [.data, .pinned], laidTests := true, laidLooks := .later }
def LineTextsUptoCardSaid : Prop := Claim7.holds Tryd.pinned (.plain (OpenSpec.upto lineTextsSpec)) lineTextsUptoCard

/-- THE SECOND FORM's CARD OF 'rejoinderlaw10.LineKinds'. -/
def lineKindsUptoCard : Claim7 := { stood := { row := lineKindsUptoRow, standIns := [], harness := (true, "c0cc65f085ba64ce6d3eafd80bd48aed531f4dcc8e9ef8728fde224d4aa9c2dd"), looks := false }, kinds := [], alts := [], laidByText := true, laidKinds := [.data, .pinned], laidTests := true, laidLooks := .later }
def LineKindsUptoCardSaid : Prop := Claim7.holds Tryd.pinned (.plain (OpenSpec.upto lineKindsSpec)) lineKindsUptoCard

/-- THE SECOND FORM's CARD OF 'rejoinderlaw10.LineAll'. -/
def lineAllUptoCard : Claim7 := { stood := { row := lineAllUptoRow, standIns := [], harness := (true, "c0cc65f085ba64ce6d3eafd80bd48aed531f4dcc8e9ef8728fde224d4aa9c2dd"), looks := false }, kinds := [], alts := [], laidByText := true, laidKinds := [.data, .pinned], laidTests := true, laidLooks := .later }
def LineAllUptoCardSaid : Prop := Claim7.holds Tryd.pinned (.plain (OpenSpec.upto lineAllSpec)) lineAllUptoCard

/-- THE SECOND FORM's CARD OF 'rejoinderlaw10.LineBack'. -/
def lineBackUptoCard : Claim7 := { stood := { row := lineBackUptoRow, standIns := [], harness := (true, "c0cc65f085ba64ce6d3eafd80bd48aed531f4dcc8e9ef8728fde224d4aa9c2dd"), looks := false }, kinds := [], alts := [], laidByText := true, laidKinds := [.data, .pinned], laidTests := true, laidLooks := .later }
def LineBackUptoCardSaid : Prop := Claim7.holds Tryd.pinned (.plain (OpenSpec.upto lineBackSpec)) lineBackUptoCard

/-- THE SECOND FORM's CARD OF 'rejoinderlaw10.LineMatches'. -/
def lineMatchesUptoCard : Claim7 := { stood := { row := lineMatchesUptoRow, standIns := [], harness := (true, "c0cc65f085ba64ce6d3eafd80bd48aed531f4dcc8e9ef8728fde224d4aa9c2dd"), looks := false }, kinds := [], alts := [], laidByText := true, laidKinds := [.data, .pinned], laidTests := true, laidLooks := .later }
def LineMatchesUptoCardSaid : Prop := Claim7.holds Tryd.pinned (.plain (OpenSpec.upto lineMatchesSpec)) lineMatchesUptoCard
end Rows
end Go.Proofs.YtncoappagcameaaDoor
