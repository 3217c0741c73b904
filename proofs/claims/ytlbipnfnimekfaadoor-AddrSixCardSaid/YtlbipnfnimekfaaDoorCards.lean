/-
  DERIVED. GIVEN WITH THE SEED: THE CARDS: each row of YtlbipnfnimekfaaDoorRows.lean that lists a variable, with what it lists TIED to the program's text (the seventh form; the later family's looks); each row that meets fmt, with fmt's text TOLD by the authors' own Lean function (tested against real Go, not proved from fmt's source: count such statements apart). THE CARD IS WHAT COUNTS. Prove the row's statement (the work); the ties are given (YtlbipnfnimekfaaDoorTie.lean); close each card by the builder's one call (the guide's Derived/Test/ToyasCard.lean, 'card_holds'). Laid BY PROGRAM, IN A SANDBOX (cutbox-door.mjs). By AI agents, Wed Nov 11 2026. No macro, syntax, notation, axiom, sorry.
-/
import Derived.Test.YtlbipnfnimekfaaDoorRows
import GoSem.ClaimSeven
namespace Go.Proofs.YtlbipnfnimekfaaDoor
namespace Rows

/-- THE TIED CARD OF 'rejoinderlaw13.AddrSix'. -/
def addrSixCard : Claim7 := { stood := { row := addrSixRow, standIns := [], harness := (true, "c18f9a29d90f0de4b7708137c93d3456261adc878efa98f8576329edaf512b60"), looks := true }, kinds := [], alts := [], laidByText := true, laidKinds := [.data, .data, .data, .data, .sentinel, .sentinel, .pinned], laidTests := true, laidLooks := .later }
def AddrSixCardSaid : Prop := Claim7.holds Tryd.pinned (.plain (OpenSpec.ofChange addrSixSpec)) addrSixCard

/-- THE TIED CARD OF 'rejoinderlaw13.AddrPorts'. -/
def addrPortsCard : Claim7 := { stood := { row := addrPortsRow, standIns := [], harness := (true, "c18f9a29d90f0de4b7708137c93d3456261adc878efa98f8576329edaf512b60"), looks := true }, kinds := [], alts := [], laidByText := true, laidKinds := [.data, .data, .data, .data, .sentinel, .sentinel, .pinned], laidTests := true, laidLooks := .later }
def AddrPortsCardSaid : Prop := Claim7.holds Tryd.pinned (.plain (OpenSpec.ofChange addrPortsSpec)) addrPortsCard

/-- THE TIED CARD OF 'rejoinderlaw13.AddrBack'. -/
def addrBackCard : Claim7 := { stood := { row := addrBackRow, standIns := [], harness := (true, "c18f9a29d90f0de4b7708137c93d3456261adc878efa98f8576329edaf512b60"), looks := true }, kinds := [], alts := [], laidByText := true, laidKinds := [.data, .data, .data, .data, .sentinel, .sentinel, .pinned], laidTests := true, laidLooks := .later }
def AddrBackCardSaid : Prop := Claim7.holds Tryd.pinned (.plain (OpenSpec.ofChange addrBackSpec)) addrBackCard

/-- THE TIED CARD OF 'rejoinderlaw13.AddrWrites'. -/
def addrWritesCard : Claim7 := { stood := { row := addrWritesRow, standIns := [], harness := (true, "c18f9a29d90f0de4b7708137c93d3456261adc878efa98f8576329edaf512b60"), looks := true }, kinds := [], alts := [], laidByText := true, laidKinds := [.data, .data, .data, .data, .sentinel, .sentinel, .pinned], laidTests := true, laidLooks := .later }
def AddrWritesCardSaid : Prop := Claim7.holds Tryd.pinned (.plain (OpenSpec.ofChange addrWritesSpec)) addrWritesCard

/-- THE TIED CARD OF 'rejoinderlaw13.AddrAll'. -/
def addrAllCard : Claim7 := { stood := { row := addrAllRow, standIns := [], harness := (true, "c18f9a29d90f0de4b7708137c93d3456261adc878efa98f8576329edaf512b60"), looks := true }, kinds := [], alts := [], laidByText := true, laidKinds := [.data, .data, .data, .data, .sentinel, .sentinel, .pinned], laidTests := true, laidLooks := .later }
def AddrAllCardSaid : Prop := Claim7.holds Tryd.pinned (.plain (OpenSpec.ofChange addrAllSpec)) addrAllCard

/-- THE SECOND FORM's CARD OF 'rejoinderlaw13.AddrSix'. -/
def addrSixUptoCard : Claim7 := { stood := { row := addrSixUptoRow, standIns := [], harness := (true, "c18f9a29d90f0de4b7708137c93d3456261adc878efa98f8576329edaf512b60"), looks := true }, kinds := [], alts := [], laidByText := true, laidKinds := [.data, .data, .data, .data, .sentinel, .sentinel, .pinned], laidTests := true, laidLooks := .later }
def AddrSixUptoCardSaid : Prop := Claim7.holds Tryd.pinned (.plain (OpenSpec.upto addrSixSpec)) addrSixUptoCard

/-- THE SECOND FORM's CARD OF 'rejoinderlaw13.AddrPorts'. -/
def addrPortsUptoCard : Claim7 := { stood := { row := addrPortsUptoRow, standIns := [], harness := (true, "c18f9a29d90f0de4b7708137c93d3456261adc878efa98f8576329edaf512b60"), looks := true }, kinds := [], alts := [], laidByText := true, laidKinds := [.data, .data, .data, .data, .sentinel, .sentinel, .pinned], laidTests := true, laidLooks := .later }
def AddrPortsUptoCardSaid : Prop := Claim7.holds Tryd.pinned (.plain (OpenSpec.upto addrPortsSpec)) addrPortsUptoCard

/-- THE SECOND FORM's CARD OF 'rejoinderlaw13.AddrBack'. -/
def addrBackUptoCard : Claim7 := { stood := { row := addrBackUptoRow, standIns := [], harness := (true, "c18f9a29d90f0de4b7708137c93d3456261adc878efa98f8576329edaf512b60"), looks := true }, kinds := [], alts := [], laidByText := true, laidKinds := [.data, .data, .data, .data, .sentinel, .sentinel, .pinned], laidTests := true, laidLooks := .later }
def AddrBackUptoCardSaid : Prop := Claim7.holds Tryd.pinned (.plain (OpenSpec.upto addrBackSpec)) addrBackUptoCard

/-- THE SECOND FORM's CARD OF 'rejoinderlaw13.AddrWrites'. -/
def addrWritesUptoCard : Claim7 := { stood := { row := addrWritesUptoRow, standIns := [], harness := (true, "c18f9a29d90f0de4b7708137c93d3456261adc878efa98f8576329edaf512b60"), looks := true }, kinds := [], alts := [], laidByText := true, laidKinds := [.data, .data, .data, .data, .sentinel, .sentinel, .pinned], laidTests := true, laidLooks := .later }
def AddrWritesUptoCardSaid : Prop := Claim7.holds Tryd.pinned (.plain (OpenSpec.upto addrWritesSpec)) addrWritesUptoCard

/-- THE SECOND FORM's CARD OF 'rejoinderlaw13.AddrAll'. -/
def addrAllUptoCard : Claim7 := { stood := { row := addrAllUptoRow, standIns := [], harness := (true, "c18f9a29d90f0de4b7708137c93d3456261adc878efa98f8576329edaf512b60"), looks := true }, kinds := [], alts := [], laidByText := true, laidKinds := [.data, .data, .data, .data, .sentinel, .sentinel, .pinned], laidTests := true, laidLooks := .later }
def AddrAllUptoCardSaid : Prop := Claim7.holds Tryd.pinned (.plain (OpenSpec.upto addrAllSpec)) addrAllUptoCard
end Rows
end Go.Proofs.YtlbipnfnimekfaaDoor
