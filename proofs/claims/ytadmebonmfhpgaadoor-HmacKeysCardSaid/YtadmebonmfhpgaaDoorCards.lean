/-
  DERIVED. GIVEN WITH THE SEED: THE CARDS: each row of YtadmebonmfhpgaaDoorRows.lean that lists a variable, with what it lists TIED to the program's text (the seventh form; the later family's looks); each row that meets fmt, with fmt's text TOLD by the authors' own Lean function (tested against real Go, not proved from fmt's source: count such statements apart). THE CARD IS WHAT COUNTS. Prove the row's statement (the work); the ties are given (YtadmebonmfhpgaaDoorTie.lean); close each card by the builder's one call (the guide's Derived/Test/ToyasCard.lean, 'card_holds'). Laid BY PROGRAM, IN A SANDBOX (cutbox-door.mjs). By AI agents, Wed Nov 11 2026. No macro, syntax, notation, axiom, sorry.
-/
import Derived.Test.YtadmebonmfhpgaaDoorRows
import GoSem.ClaimSeven
namespace Go.Proofs.YtadmebonmfhpgaaDoor
namespace Rows

/-- THE TIED CARD OF 'rejoinderlaw04.HmacAll'. -/
def hmacAllCard : Claim7 := { stood := { row := hmacAllRow, standIns := [], harness := (true, "f6cf610f974ae2b5f8adc64a9674fc486daf831a8a4bde36402c4e7ebc4587c1"), looks := false }, kinds := [], alts := [], laidByText := true, laidKinds := [.data, .data, .data], laidTests := true, laidLooks := .later }
def HmacAllCardSaid : Prop := Claim7.holds Tryd.pinned (.plain (OpenSpec.ofChange hmacAllSpec)) hmacAllCard

/-- THE TIED CARD OF 'rejoinderlaw04.HmacKeys'. -/
def hmacKeysCard : Claim7 := { stood := { row := hmacKeysRow, standIns := [], harness := (true, "f6cf610f974ae2b5f8adc64a9674fc486daf831a8a4bde36402c4e7ebc4587c1"), looks := false }, kinds := [], alts := [], laidByText := true, laidKinds := [.data, .data, .data], laidTests := true, laidLooks := .later }
def HmacKeysCardSaid : Prop := Claim7.holds Tryd.pinned (.plain (OpenSpec.ofChange hmacKeysSpec)) hmacKeysCard

/-- THE TIED CARD OF 'rejoinderlaw04.HmacTwice'. -/
def hmacTwiceCard : Claim7 := { stood := { row := hmacTwiceRow, standIns := [], harness := (true, "f6cf610f974ae2b5f8adc64a9674fc486daf831a8a4bde36402c4e7ebc4587c1"), looks := false }, kinds := [], alts := [], laidByText := true, laidKinds := [.data, .data, .data], laidTests := true, laidLooks := .later }
def HmacTwiceCardSaid : Prop := Claim7.holds Tryd.pinned (.plain (OpenSpec.ofChange hmacTwiceSpec)) hmacTwiceCard

/-- THE TIED CARD OF 'rejoinderlaw04.HmacApart'. -/
def hmacApartCard : Claim7 := { stood := { row := hmacApartRow, standIns := [], harness := (true, "f6cf610f974ae2b5f8adc64a9674fc486daf831a8a4bde36402c4e7ebc4587c1"), looks := false }, kinds := [], alts := [], laidByText := true, laidKinds := [.data, .data, .data], laidTests := true, laidLooks := .later }
def HmacApartCardSaid : Prop := Claim7.holds Tryd.pinned (.plain (OpenSpec.ofChange hmacApartSpec)) hmacApartCard

/-- THE SECOND FORM's CARD OF 'rejoinderlaw04.HmacAll'. -/
def hmacAllUptoCard : Claim7 := { stood := { row := hmacAllUptoRow, standIns := [], harness := (true, "f6cf610f974ae2b5f8adc64a9674fc486daf831a8a4bde36402c4e7ebc4587c1"), looks := false }, kinds := [], alts := [], laidByText := true, laidKinds := [.data, .data, .data], laidTests := true, laidLooks := .later }
def HmacAllUptoCardSaid : Prop := Claim7.holds Tryd.pinned (.plain (OpenSpec.upto hmacAllSpec)) hmacAllUptoCard

/-- THE SECOND FORM's CARD OF 'rejoinderlaw04.HmacKeys'. -/
def hmacKeysUptoCard : Claim7 := { stood := { row := hmacKeysUptoRow, standIns := [], harness := (true, "f6cf610f974ae2b5f8adc64a9674fc486daf831a8a4bde36402c4e7ebc4587c1"), looks := false }, kinds := [], alts := [], laidByText := true, laidKinds := [.data, .data, .data], laidTests := true, laidLooks := .later }
def HmacKeysUptoCardSaid : Prop := Claim7.holds Tryd.pinned (.plain (OpenSpec.upto hmacKeysSpec)) hmacKeysUptoCard

/-- THE SECOND FORM's CARD OF 'rejoinderlaw04.HmacTwice'. -/
def hmacTwiceUptoCard : Claim7 := { stood := { row := hmacTwiceUptoRow, standIns := [], harness := (true, "f6cf610f974ae2b5f8adc64a9674fc486daf831a8a4bde36402c4e7ebc4587c1"), looks := false }, kinds := [], alts := [], laidByText := true, laidKinds := [.data, .data, .data], laidTests := true, laidLooks := .later }
def HmacTwiceUptoCardSaid : Prop := Claim7.holds Tryd.pinned (.plain (OpenSpec.upto hmacTwiceSpec)) hmacTwiceUptoCard

/-- THE SECOND FORM's CARD OF 'rejoinderlaw04.HmacApart'. -/
def hmacApartUptoCard : Claim7 := { stood := { row := hmacApartUptoRow, standIns := [], harness := (true, "f6cf610f974ae2b5f8adc64a9674fc486daf831a8a4bde36402c4e7ebc4587c1"), looks := false }, kinds := [], alts := [], laidByText := true, laidKinds := [.data, .data, .data], laidTests := true, laidLooks := .later }
def HmacApartUptoCardSaid : Prop := Claim7.holds Tryd.pinned (.plain (OpenSpec.upto hmacApartSpec)) hmacApartUptoCard
end Rows
end Go.Proofs.YtadmebonmfhpgaaDoor
