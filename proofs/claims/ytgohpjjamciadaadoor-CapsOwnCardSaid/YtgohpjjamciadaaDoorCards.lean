/-
  DERIVED. GIVEN WITH THE SEED: THE CARDS: each row of YtgohpjjamciadaaDoorRows.lean that lists a variable, with what it lists TIED to the program's text (the seventh form; the later family's looks); each row that meets fmt, with fmt's text TOLD by the authors' own Lean function (tested against real Go, not proved from fmt's source: count such statements apart). THE CARD IS WHAT COUNTS. Prove the row's statement (the work); the ties are given (YtgohpjjamciadaaDoorTie.lean); close each card by the builder's one call (the guide's Derived/Test/ToyasCard.lean, 'card_holds'). Laid BY PROGRAM, IN A SANDBOX (cutbox-door.mjs). By AI agents, Wed Nov 11 2026. No macro, syntax, notation, axiom, sorry.
-/
import Derived.Test.YtgohpjjamciadaaDoorRows
import GoSem.ClaimSeven
namespace Go.Proofs.YtgohpjjamciadaaDoor
namespace Rows

/-- THE TIED CARD OF 'rejoinderlaw12.CapsAll'. -/
def capsAllCard : Claim7 := { stood := { row := capsAllRow, standIns := [], harness := (true, "3e95bcda13d254ab860688be91c7badc5db033a8b603f015e3188dee14a2f5b4"), looks := false }, kinds := [], alts := [], laidByText := true, laidKinds := [.data, .pinned], laidTests := true, laidLooks := .later }
def CapsAllCardSaid : Prop := Claim7.holds Tryd.pinned (.plain (OpenSpec.ofChange capsAllSpec)) capsAllCard

/-- THE TIED CARD OF 'rejoinderlaw12.CapsOwn'. -/
def capsOwnCard : Claim7 := { stood := { row := capsOwnRow, standIns := [], harness := (true, "3e95bcda13d254ab860688be91c7badc5db033a8b603f015e3188dee14a2f5b4"), looks := false }, kinds := [], alts := [], laidByText := true, laidKinds := [.data, .pinned], laidTests := true, laidLooks := .later }
def CapsOwnCardSaid : Prop := Claim7.holds Tryd.pinned (.plain (OpenSpec.ofChange capsOwnSpec)) capsOwnCard

/-- THE TIED CARD OF 'rejoinderlaw12.CapsLines'. -/
def capsLinesCard : Claim7 := { stood := { row := capsLinesRow, standIns := [], harness := (true, "3e95bcda13d254ab860688be91c7badc5db033a8b603f015e3188dee14a2f5b4"), looks := false }, kinds := [], alts := [], laidByText := true, laidKinds := [.data, .pinned], laidTests := true, laidLooks := .later }
def CapsLinesCardSaid : Prop := Claim7.holds Tryd.pinned (.plain (OpenSpec.ofChange capsLinesSpec)) capsLinesCard

/-- THE TIED CARD OF 'rejoinderlaw12.CapsTurns'. -/
def capsTurnsCard : Claim7 := { stood := { row := capsTurnsRow, standIns := [], harness := (true, "3e95bcda13d254ab860688be91c7badc5db033a8b603f015e3188dee14a2f5b4"), looks := false }, kinds := [], alts := [], laidByText := true, laidKinds := [.data, .pinned], laidTests := true, laidLooks := .later }
def CapsTurnsCardSaid : Prop := Claim7.holds Tryd.pinned (.plain (OpenSpec.ofChange capsTurnsSpec)) capsTurnsCard

/-- THE TIED CARD OF 'rejoinderlaw12.CapsEach'. -/
def capsEachCard : Claim7 := { stood := { row := capsEachRow, standIns := [], harness := (true, "3e95bcda13d254ab860688be91c7badc5db033a8b603f015e3188dee14a2f5b4"), looks := false }, kinds := [], alts := [], laidByText := true, laidKinds := [.data, .pinned], laidTests := true, laidLooks := .later }
def CapsEachCardSaid : Prop := Claim7.holds Tryd.pinned (.plain (OpenSpec.ofChange capsEachSpec)) capsEachCard

/-- THE SECOND FORM's CARD OF 'rejoinderlaw12.CapsAll'. -/
def capsAllUptoCard : Claim7 := { stood := { row := capsAllUptoRow, standIns := [], harness := (true, "3e95bcda13d254ab860688be91c7badc5db033a8b603f015e3188dee14a2f5b4"), looks := false }, kinds := [], alts := [], laidByText := true, laidKinds := [.data, .pinned], laidTests := true, laidLooks := .later }
def CapsAllUptoCardSaid : Prop := Claim7.holds Tryd.pinned (.plain (OpenSpec.upto capsAllSpec)) capsAllUptoCard

/-- THE SECOND FORM's CARD OF 'rejoinderlaw12.CapsOwn'. -/
def capsOwnUptoCard : Claim7 := { stood := { row := capsOwnUptoRow, standIns := [], harness := (true, "3e95bcda13d254ab860688be91c7badc5db033a8b603f015e3188dee14a2f5b4"), looks := false }, kinds := [], alts := [], laidByText := true, laidKinds := [.data, .pinned], laidTests := true, laidLooks := .later }
def CapsOwnUptoCardSaid : Prop := Claim7.holds Tryd.pinned (.plain (OpenSpec.upto capsOwnSpec)) capsOwnUptoCard

/-- THE SECOND FORM's CARD OF 'rejoinderlaw12.CapsLines'. -/
def capsLinesUptoCard : Claim7 := { stood := { row := capsLinesUptoRow, standIns := [], harness := (true, "3e95bcda13d254ab860688be91c7badc5db033a8b603f015e3188dee14a2f5b4"), looks := false }, kinds := [], alts := [], laidByText := true, laidKinds := [.data, .pinned], laidTests := true, laidLooks := .later }
def CapsLinesUptoCardSaid : Prop := Claim7.holds Tryd.pinned (.plain (OpenSpec.upto capsLinesSpec)) capsLinesUptoCard

/-- THE SECOND FORM's CARD OF 'rejoinderlaw12.CapsTurns'. -/
def capsTurnsUptoCard : Claim7 := { stood := { row := capsTurnsUptoRow, standIns := [], harness := (true, "3e95bcda13d254ab860688be91c7badc5db033a8b603f015e3188dee14a2f5b4"), looks := false }, kinds := [], alts := [], laidByText := true, laidKinds := [.data, .pinned], laidTests := true, laidLooks := .later }
def CapsTurnsUptoCardSaid : Prop := Claim7.holds Tryd.pinned (.plain (OpenSpec.upto capsTurnsSpec)) capsTurnsUptoCard

/-- THE SECOND FORM's CARD OF 'rejoinderlaw12.CapsEach'. -/
def capsEachUptoCard : Claim7 := { stood := { row := capsEachUptoRow, standIns := [], harness := (true, "3e95bcda13d254ab860688be91c7badc5db033a8b603f015e3188dee14a2f5b4"), looks := false }, kinds := [], alts := [], laidByText := true, laidKinds := [.data, .pinned], laidTests := true, laidLooks := .later }
def CapsEachUptoCardSaid : Prop := Claim7.holds Tryd.pinned (.plain (OpenSpec.upto capsEachSpec)) capsEachUptoCard
end Rows
end Go.Proofs.YtgohpjjamciadaaDoor
