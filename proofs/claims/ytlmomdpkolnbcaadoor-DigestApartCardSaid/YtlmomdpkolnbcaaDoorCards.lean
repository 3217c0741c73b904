/-
  DERIVED. GIVEN WITH THE SEED: THE CARDS: each row of YtlmomdpkolnbcaaDoorRows.lean that lists a variable, with what it lists TIED to the program's text (the seventh form; the later family's looks); each row that meets fmt, with fmt's text TOLD by the authors' own Lean function (tested against real Go, not proved from fmt's source: count such statements apart). THE CARD IS WHAT COUNTS. Prove the row's statement (the work); the ties are given (YtlmomdpkolnbcaaDoorTie.lean); close each card by the builder's one call (the guide's Derived/Test/ToyasCard.lean, 'card_holds'). Laid BY PROGRAM, IN A SANDBOX (cutbox-door.mjs). By AI agents, Wed Nov 11 2026. No macro, syntax, notation, axiom, sorry.
-/
import Derived.Test.YtlmomdpkolnbcaaDoorRows
import GoSem.ClaimSeven
namespace Go.Proofs.YtlmomdpkolnbcaaDoor
namespace Rows

/-- THE TIED CARD OF 'rejoinderlaw03.DigestKnown'. -/
def digestKnownCard : Claim7 := { stood := { row := digestKnownRow, standIns := [], harness := (true, "9c88b326ac4f093fb1c747a815c74438819ab8f2812f9d82fe7c6e61c4e137d1"), looks := false }, kinds := [], alts := [], laidByText := true, laidKinds := [.data, .data, .data], laidTests := true, laidLooks := .later }
def DigestKnownCardSaid : Prop := Claim7.holds Tryd.pinned (.plain (OpenSpec.ofChange digestKnownSpec)) digestKnownCard

/-- THE TIED CARD OF 'rejoinderlaw03.DigestApart'. -/
def digestApartCard : Claim7 := { stood := { row := digestApartRow, standIns := [], harness := (true, "9c88b326ac4f093fb1c747a815c74438819ab8f2812f9d82fe7c6e61c4e137d1"), looks := false }, kinds := [], alts := [], laidByText := true, laidKinds := [.data, .data, .data], laidTests := true, laidLooks := .later }
def DigestApartCardSaid : Prop := Claim7.holds Tryd.pinned (.plain (OpenSpec.ofChange digestApartSpec)) digestApartCard

/-- THE TIED CARD OF 'rejoinderlaw03.DigestAll'. -/
def digestAllCard : Claim7 := { stood := { row := digestAllRow, standIns := [], harness := (true, "9c88b326ac4f093fb1c747a815c74438819ab8f2812f9d82fe7c6e61c4e137d1"), looks := false }, kinds := [], alts := [], laidByText := true, laidKinds := [.data, .data, .data], laidTests := true, laidLooks := .later }
def DigestAllCardSaid : Prop := Claim7.holds Tryd.pinned (.plain (OpenSpec.ofChange digestAllSpec)) digestAllCard

/-- THE TIED CARD OF 'rejoinderlaw03.DigestHex'. -/
def digestHexCard : Claim7 := { stood := { row := digestHexRow, standIns := [], harness := (true, "9c88b326ac4f093fb1c747a815c74438819ab8f2812f9d82fe7c6e61c4e137d1"), looks := false }, kinds := [], alts := [], laidByText := true, laidKinds := [.data, .data, .data], laidTests := true, laidLooks := .later }
def DigestHexCardSaid : Prop := Claim7.holds Tryd.pinned (.plain (OpenSpec.ofChange digestHexSpec)) digestHexCard

/-- THE TIED CARD OF 'rejoinderlaw03.DigestJoins'. -/
def digestJoinsCard : Claim7 := { stood := { row := digestJoinsRow, standIns := [], harness := (true, "9c88b326ac4f093fb1c747a815c74438819ab8f2812f9d82fe7c6e61c4e137d1"), looks := false }, kinds := [], alts := [], laidByText := true, laidKinds := [.data, .data, .data], laidTests := true, laidLooks := .later }
def DigestJoinsCardSaid : Prop := Claim7.holds Tryd.pinned (.plain (OpenSpec.ofChange digestJoinsSpec)) digestJoinsCard

/-- THE SECOND FORM's CARD OF 'rejoinderlaw03.DigestKnown'. -/
def digestKnownUptoCard : Claim7 := { stood := { row := digestKnownUptoRow, standIns := [], harness := (true, "9c88b326ac4f093fb1c747a815c74438819ab8f2812f9d82fe7c6e61c4e137d1"), looks := false }, kinds := [], alts := [], laidByText := true, laidKinds := [.data, .data, .data], laidTests := true, laidLooks := .later }
def DigestKnownUptoCardSaid : Prop := Claim7.holds Tryd.pinned (.plain (OpenSpec.upto digestKnownSpec)) digestKnownUptoCard

/-- THE SECOND FORM's CARD OF 'rejoinderlaw03.DigestApart'. -/
def digestApartUptoCard : Claim7 := { stood := { row := digestApartUptoRow, standIns := [], harness := (true, "9c88b326ac4f093fb1c747a815c74438819ab8f2812f9d82fe7c6e61c4e137d1"), looks := false }, kinds := [], alts := [], laidByText := true, laidKinds := [.data, .data, .data], laidTests := true, laidLooks := .later }
def DigestApartUptoCardSaid : Prop := Claim7.holds Tryd.pinned (.plain (OpenSpec.upto digestApartSpec)) digestApartUptoCard

/-- THE SECOND FORM's CARD OF 'rejoinderlaw03.DigestAll'. -/
def digestAllUptoCard : Claim7 := { stood := { row := digestAllUptoRow, standIns := [], harness := (true, "9c88b326ac4f093fb1c747a815c74438819ab8f2812f9d82fe7c6e61c4e137d1"), looks := false }, kinds := [], alts := [], laidByText := true, laidKinds := [.data, .data, .data], laidTests := true, laidLooks := .later }
def DigestAllUptoCardSaid : Prop := Claim7.holds Tryd.pinned (.plain (OpenSpec.upto digestAllSpec)) digestAllUptoCard

/-- THE SECOND FORM's CARD OF 'rejoinderlaw03.DigestHex'. -/
def digestHexUptoCard : Claim7 := { stood := { row := digestHexUptoRow, standIns := [], harness := (true, "9c88b326ac4f093fb1c747a815c74438819ab8f2812f9d82fe7c6e61c4e137d1"), looks := false }, kinds := [], alts := [], laidByText := true, laidKinds := [.data, .data, .data], laidTests := true, laidLooks := .later }
def DigestHexUptoCardSaid : Prop := Claim7.holds Tryd.pinned (.plain (OpenSpec.upto digestHexSpec)) digestHexUptoCard

/-- THE SECOND FORM's CARD OF 'rejoinderlaw03.DigestJoins'. -/
def digestJoinsUptoCard : Claim7 := { stood := { row := digestJoinsUptoRow, standIns := [], harness := (true, "9c88b326ac4f093fb1c747a815c74438819ab8f2812f9d82fe7c6e61c4e137d1"), looks := false }, kinds := [], alts := [], laidByText := true, laidKinds := [.data, .data, .data], laidTests := true, laidLooks := .later }
def DigestJoinsUptoCardSaid : Prop := Claim7.holds Tryd.pinned (.plain (OpenSpec.upto digestJoinsSpec)) digestJoinsUptoCard
end Rows
end Go.Proofs.YtlmomdpkolnbcaaDoor
