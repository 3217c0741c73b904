/-
  DERIVED. GIVEN WITH THE SEED: THE CARDS: each row of YtammhfnolafknaaDoorRows.lean that lists a variable, with what it lists TIED to the program's text (the seventh form; the later family's looks); each row that meets fmt, with fmt's text TOLD by the authors' own Lean function (tested against real Go, not proved from fmt's source: count such statements apart). THE CARD IS WHAT COUNTS. Prove the row's statement (the work); the ties are given (YtammhfnolafknaaDoorTie.lean); close each card by the builder's one call (the guide's Derived/Test/ToyasCard.lean, 'card_holds'). Laid BY PROGRAM, IN A SANDBOX (cutbox-door.mjs). By AI agents, Wed Nov 11 2026. No macro, syntax, notation, axiom, sorry.
-/
import Derived.Test.YtammhfnolafknaaDoorRows
import GoSem.ClaimSeven
namespace Go.Proofs.YtammhfnolafknaaDoor
namespace Rows

/-- THE TIED CARD OF 'rejoinderlaw23.LogLines'. -/
def logLinesCard : Claim7 := { stood := { row := logLinesRow, standIns := [], harness := (true, "99af2145bd5d60b105c1a6dd17f9d1d15809bb12c7a0e88d7fe163e2b83f8b2e"), looks := true }, kinds := [], alts := [], laidByText := true, laidKinds := [.data, .data, .data], laidTests := true, laidLooks := .later }
def LogLinesCardSaid : Prop := Claim7.holds Tryd.pinned (.plain (OpenSpec.ofChange logLinesSpec)) logLinesCard

/-- THE TIED CARD OF 'rejoinderlaw23.LogNames'. -/
def logNamesCard : Claim7 := { stood := { row := logNamesRow, standIns := [], harness := (true, "99af2145bd5d60b105c1a6dd17f9d1d15809bb12c7a0e88d7fe163e2b83f8b2e"), looks := true }, kinds := [], alts := [], laidByText := true, laidKinds := [.data, .data, .data], laidTests := true, laidLooks := .later }
def LogNamesCardSaid : Prop := Claim7.holds Tryd.pinned (.plain (OpenSpec.ofChange logNamesSpec)) logNamesCard

/-- THE TIED CARD OF 'rejoinderlaw23.LogShows'. -/
def logShowsCard : Claim7 := { stood := { row := logShowsRow, standIns := [], harness := (true, "99af2145bd5d60b105c1a6dd17f9d1d15809bb12c7a0e88d7fe163e2b83f8b2e"), looks := true }, kinds := [], alts := [], laidByText := true, laidKinds := [.data, .data, .data, .data, .pinned], laidTests := true, laidLooks := .later }
def LogShowsCardSaid : Prop := Claim7.holds Tryd.pinned (.plain (OpenSpec.ofChange logShowsSpec)) logShowsCard

/-- THE TIED CARD OF 'rejoinderlaw23.LogBack'. -/
def logBackCard : Claim7 := { stood := { row := logBackRow, standIns := [], harness := (true, "99af2145bd5d60b105c1a6dd17f9d1d15809bb12c7a0e88d7fe163e2b83f8b2e"), looks := true }, kinds := [], alts := [], laidByText := true, laidKinds := [.data, .data, .data, .data, .sentinel, .sentinel, .pinned], laidTests := true, laidLooks := .later }
def LogBackCardSaid : Prop := Claim7.holds Tryd.pinned (.plain (OpenSpec.ofChange logBackSpec)) logBackCard

/-- THE TIED CARD OF 'rejoinderlaw23.LogAll'. -/
def logAllCard : Claim7 := { stood := { row := logAllRow, standIns := [], harness := (true, "99af2145bd5d60b105c1a6dd17f9d1d15809bb12c7a0e88d7fe163e2b83f8b2e"), looks := true }, kinds := [], alts := [], laidByText := true, laidKinds := [.data, .data, .data, .data, .sentinel, .sentinel, .pinned], laidTests := true, laidLooks := .later }
def LogAllCardSaid : Prop := Claim7.holds Tryd.pinned (.plain (OpenSpec.ofChange logAllSpec)) logAllCard

/-- THE SECOND FORM's CARD OF 'rejoinderlaw23.LogLines'. -/
def logLinesUptoCard : Claim7 := { stood := { row := logLinesUptoRow, standIns := [], harness := (true, "99af2145bd5d60b105c1a6dd17f9d1d15809bb12c7a0e88d7fe163e2b83f8b2e"), looks := true }, kinds := [], alts := [], laidByText := true, laidKinds := [.data, .data, .data], laidTests := true, laidLooks := .later }
def LogLinesUptoCardSaid : Prop := Claim7.holds Tryd.pinned (.plain (OpenSpec.upto logLinesSpec)) logLinesUptoCard

/-- THE SECOND FORM's CARD OF 'rejoinderlaw23.LogNames'. -/
def logNamesUptoCard : Claim7 := { stood := { row := logNamesUptoRow, standIns := [], harness := (true, "99af2145bd5d60b105c1a6dd17f9d1d15809bb12c7a0e88d7fe163e2b83f8b2e"), looks := true }, kinds := [], alts := [], laidByText := true, laidKinds := [.data, .data, .data], laidTests := true, laidLooks := .later }
def LogNamesUptoCardSaid : Prop := Claim7.holds Tryd.pinned (.plain (OpenSpec.upto logNamesSpec)) logNamesUptoCard

/-- THE SECOND FORM's CARD OF 'rejoinderlaw23.LogShows'. -/
def logShowsUptoCard : Claim7 := { stood := { row := logShowsUptoRow, standIns := [], harness := (true, "99af2145bd5d60b105c1a6dd17f9d1d15809bb12c7a0e88d7fe163e2b83f8b2e"), looks := true }, kinds := [], alts := [], laidByText := true, laidKinds := [.data, .data, .data, .data, .pinned], laidTests := true, laidLooks := .later }
def LogShowsUptoCardSaid : Prop := Claim7.holds Tryd.pinned (.plain (OpenSpec.upto logShowsSpec)) logShowsUptoCard

/-- THE SECOND FORM's CARD OF 'rejoinderlaw23.LogBack'. -/
def logBackUptoCard : Claim7 := { stood := { row := logBackUptoRow, standIns := [], harness := (true, "99af2145bd5d60b105c1a6dd17f9d1d15809bb12c7a0e88d7fe163e2b83f8b2e"), looks := true }, kinds := [], alts := [], laidByText := true, laidKinds := [.data, .data, .data, .data, .sentinel, .sentinel, .pinned], laidTests := true, laidLooks := .later }
def LogBackUptoCardSaid : Prop := Claim7.holds Tryd.pinned (.plain (OpenSpec.upto logBackSpec)) logBackUptoCard

/-- THE SECOND FORM's CARD OF 'rejoinderlaw23.LogAll'. -/
def logAllUptoCard : Claim7 := { stood := { row := logAllUptoRow, standIns := [], harness := (true, "99af2145bd5d60b105c1a6dd17f9d1d15809bb12c7a0e88d7fe163e2b83f8b2e"), looks := true }, kinds := [], alts := [], laidByText := true, laidKinds := [.data, .data, .data, .data, .sentinel, .sentinel, .pinned], laidTests := true, laidLooks := .later }
def LogAllUptoCardSaid : Prop := Claim7.holds Tryd.pinned (.plain (OpenSpec.upto logAllSpec)) logAllUptoCard
end Rows
end Go.Proofs.YtammhfnolafknaaDoor
