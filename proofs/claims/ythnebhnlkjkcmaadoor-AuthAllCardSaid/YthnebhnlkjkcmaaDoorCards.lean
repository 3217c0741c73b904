/-
  DERIVED. GIVEN WITH THE SEED: THE CARDS: each row of YthnebhnlkjkcmaaDoorRows.lean that lists a variable, with what it lists TIED to the program's text (the seventh form; the later family's looks); each row that meets fmt, with fmt's text TOLD by the authors' own Lean function (tested against real Go, not proved from fmt's source: count such statements apart). THE CARD IS WHAT COUNTS. Prove the row's statement (the work); the ties are given (YthnebhnlkjkcmaaDoorTie.lean); close each card by the builder's one call (the guide's Derived/Test/ToyasCard.lean, 'card_holds'). Laid BY PROGRAM, IN A SANDBOX (cutbox-door.mjs). By AI agents, Wed Nov 11 2026. No macro, syntax, notation, axiom, sorry.
-/
import Derived.Test.YthnebhnlkjkcmaaDoorRows
import GoSem.ClaimSeven
namespace Go.Proofs.YthnebhnlkjkcmaaDoor
namespace Rows

/-- THE TIED CARD OF 'rejoinderlaw05.AuthStamps'. -/
def authStampsCard : Claim7 := { stood := { row := authStampsRow, standIns := [], harness := (true, "7f095f030726675a2b470fce9565d8f4e5c865d27f8079fab5ab6f326577767f"), looks := false }, kinds := [], alts := [], laidByText := true, laidKinds := [.data, .data, .data], laidTests := true, laidLooks := .later }
def AuthStampsCardSaid : Prop := Claim7.holds Tryd.pinned (.plain (OpenSpec.ofChange authStampsSpec)) authStampsCard

/-- THE TIED CARD OF 'rejoinderlaw05.AuthFirst'. -/
def authFirstCard : Claim7 := { stood := { row := authFirstRow, standIns := [], harness := (true, "7f095f030726675a2b470fce9565d8f4e5c865d27f8079fab5ab6f326577767f"), looks := false }, kinds := [], alts := [], laidByText := true, laidKinds := [.data, .data, .data], laidTests := true, laidLooks := .later }
def AuthFirstCardSaid : Prop := Claim7.holds Tryd.pinned (.plain (OpenSpec.ofChange authFirstSpec)) authFirstCard

/-- THE TIED CARD OF 'rejoinderlaw05.AuthBack'. -/
def authBackCard : Claim7 := { stood := { row := authBackRow, standIns := [], harness := (true, "7f095f030726675a2b470fce9565d8f4e5c865d27f8079fab5ab6f326577767f"), looks := false }, kinds := [], alts := [], laidByText := true, laidKinds := [.data, .data, .data, .data, .pinned], laidTests := true, laidLooks := .later }
def AuthBackCardSaid : Prop := Claim7.holds Tryd.pinned (.plain (OpenSpec.ofChange authBackSpec)) authBackCard

/-- THE TIED CARD OF 'rejoinderlaw05.AuthAll'. -/
def authAllCard : Claim7 := { stood := { row := authAllRow, standIns := [], harness := (true, "7f095f030726675a2b470fce9565d8f4e5c865d27f8079fab5ab6f326577767f"), looks := false }, kinds := [], alts := [], laidByText := true, laidKinds := [.data, .data, .data, .data, .pinned], laidTests := true, laidLooks := .later }
def AuthAllCardSaid : Prop := Claim7.holds Tryd.pinned (.plain (OpenSpec.ofChange authAllSpec)) authAllCard

/-- THE SECOND FORM's CARD OF 'rejoinderlaw05.AuthStamps'. -/
def authStampsUptoCard : Claim7 := { stood := { row := authStampsUptoRow, standIns := [], harness := (true, "7f095f030726675a2b470fce9565d8f4e5c865d27f8079fab5ab6f326577767f"), looks := false }, kinds := [], alts := [], laidByText := true, laidKinds := [.data, .data, .data], laidTests := true, laidLooks := .later }
def AuthStampsUptoCardSaid : Prop := Claim7.holds Tryd.pinned (.plain (OpenSpec.upto authStampsSpec)) authStampsUptoCard

/-- THE SECOND FORM's CARD OF 'rejoinderlaw05.AuthFirst'. -/
def authFirstUptoCard : Claim7 := { stood := { row := authFirstUptoRow, standIns := [], harness := (true, "7f095f030726675a2b470fce9565d8f4e5c865d27f8079fab5ab6f326577767f"), looks := false }, kinds := [], alts := [], laidByText := true, laidKinds := [.data, .data, .data], laidTests := true, laidLooks := .later }
def AuthFirstUptoCardSaid : Prop := Claim7.holds Tryd.pinned (.plain (OpenSpec.upto authFirstSpec)) authFirstUptoCard

/-- THE SECOND FORM's CARD OF 'rejoinderlaw05.AuthBack'. -/
def authBackUptoCard : Claim7 := { stood := { row := authBackUptoRow, standIns := [], harness := (true, "7f095f030726675a2b470fce9565d8f4e5c865d27f8079fab5ab6f326577767f"), looks := false }, kinds := [], alts := [], laidByText := true, laidKinds := [.data, .data, .data, .data, .pinned], laidTests := true, laidLooks := .later }
def AuthBackUptoCardSaid : Prop := Claim7.holds Tryd.pinned (.plain (OpenSpec.upto authBackSpec)) authBackUptoCard

/-- THE SECOND FORM's CARD OF 'rejoinderlaw05.AuthAll'. -/
def authAllUptoCard : Claim7 := { stood := { row := authAllUptoRow, standIns := [], harness := (true, "7f095f030726675a2b470fce9565d8f4e5c865d27f8079fab5ab6f326577767f"), looks := false }, kinds := [], alts := [], laidByText := true, laidKinds := [.data, .data, .data, .data, .pinned], laidTests := true, laidLooks := .later }
def AuthAllUptoCardSaid : Prop := Claim7.holds Tryd.pinned (.plain (OpenSpec.upto authAllSpec)) authAllUptoCard
end Rows
end Go.Proofs.YthnebhnlkjkcmaaDoor
