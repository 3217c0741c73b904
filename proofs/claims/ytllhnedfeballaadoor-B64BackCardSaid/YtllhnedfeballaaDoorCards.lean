/-
  DERIVED. GIVEN WITH THE SEED: THE CARDS: each row of YtllhnedfeballaaDoorRows.lean that lists a variable, with what it lists TIED to the program's text (the seventh form; the later family's looks); each row that meets fmt, with fmt's text TOLD by the authors' own Lean function (tested against real Go, not proved from fmt's source: count such statements apart). THE CARD IS WHAT COUNTS. Prove the row's statement (the work); the ties are given (YtllhnedfeballaaDoorTie.lean); close each card by the builder's one call (the guide's Derived/Test/ToyasCard.lean, 'card_holds'). Laid BY PROGRAM, IN A SANDBOX (cutbox-door.mjs). By AI agents, Wed Nov 11 2026. No macro, syntax, notation, axiom, sorry.
-/
import Derived.Test.YtllhnedfeballaaDoorRows
import GoSem.ClaimSeven
namespace Go.Proofs.YtllhnedfeballaaDoor
namespace Rows

/-- THE TIED CARD OF 'rejoinderlaw02.B64All'. -/
def b64AllCard : Claim7 := { stood := { row := b64AllRow, standIns := [], harness := (true, "a4ccb8a376fcd8b4fd423021772673a26073a343b9f47d57168abeaa80ca6cfc"), looks := false }, kinds := [], alts := [], laidByText := true, laidKinds := [.data, .pinned], laidTests := true, laidLooks := .later }
def B64AllCardSaid : Prop := Claim7.holds Tryd.pinned (.plain (OpenSpec.ofChange b64AllSpec)) b64AllCard

/-- THE TIED CARD OF 'rejoinderlaw02.B64Back'. -/
def b64BackCard : Claim7 := { stood := { row := b64BackRow, standIns := [], harness := (true, "a4ccb8a376fcd8b4fd423021772673a26073a343b9f47d57168abeaa80ca6cfc"), looks := false }, kinds := [], alts := [], laidByText := true, laidKinds := [.data, .pinned], laidTests := true, laidLooks := .later }
def B64BackCardSaid : Prop := Claim7.holds Tryd.pinned (.plain (OpenSpec.ofChange b64BackSpec)) b64BackCard

/-- THE SECOND FORM's CARD OF 'rejoinderlaw02.B64All'. -/
def b64AllUptoCard : Claim7 := { stood := { row := b64AllUptoRow, standIns := [], harness := (true, "a4ccb8a376fcd8b4fd423021772673a26073a343b9f47d57168abeaa80ca6cfc"), looks := false }, kinds := [], alts := [], laidByText := true, laidKinds := [.data, .pinned], laidTests := true, laidLooks := .later }
def B64AllUptoCardSaid : Prop := Claim7.holds Tryd.pinned (.plain (OpenSpec.upto b64AllSpec)) b64AllUptoCard

/-- THE SECOND FORM's CARD OF 'rejoinderlaw02.B64Back'. -/
def b64BackUptoCard : Claim7 := { stood := { row := b64BackUptoRow, standIns := [], harness := (true, "a4ccb8a376fcd8b4fd423021772673a26073a343b9f47d57168abeaa80ca6cfc"), looks := false }, kinds := [], alts := [], laidByText := true, laidKinds := [.data, .pinned], laidTests := true, laidLooks := .later }
def B64BackUptoCardSaid : Prop := Claim7.holds Tryd.pinned (.plain (OpenSpec.upto b64BackSpec)) b64BackUptoCard
end Rows
end Go.Proofs.YtllhnedfeballaaDoor
