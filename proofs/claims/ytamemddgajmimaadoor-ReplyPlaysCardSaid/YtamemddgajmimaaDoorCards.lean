/-
  DERIVED. GIVEN WITH THE SEED: THE CARDS: each row of YtamemddgajmimaaDoorRows.lean that lists a variable, with what it lists TIED to the program's text (the seventh form; the later family's looks); each row that meets fmt, with fmt's text TOLD by the authors' own Lean function (tested against real Go, not proved from fmt's source: count such statements apart). THE CARD IS WHAT COUNTS. Prove the row's statement (the work); the ties are given (YtamemddgajmimaaDoorTie.lean); close each card by the builder's one call (the guide's Derived/Test/ToyasCard.lean, 'card_holds'). Laid BY PROGRAM, IN A SANDBOX (cutbox-door.mjs). By AI agents, Wed Nov 11 2026. No macro, syntax, notation, axiom, sorry.
-/
import Derived.Test.YtamemddgajmimaaDoorRows
import GoSem.ClaimSeven
namespace Go.Proofs.YtamemddgajmimaaDoor
namespace Rows

/-- THE TIED CARD OF 'rejoinderlaw11.ReplyPlays'. -/
def replyPlaysCard : Claim7 := { stood := { row := replyPlaysRow, standIns := [], harness := (true, "42d8e0756ef43b3590d0d3c75120fedbc9534b7b02c63070d479df3d0f41ec9e"), looks := false }, kinds := [], alts := [], laidByText := true, laidKinds := [.data, .pinned], laidTests := true, laidLooks := .later }
def ReplyPlaysCardSaid : Prop := Claim7.holds Tryd.pinned (.plain (OpenSpec.ofChange replyPlaysSpec)) replyPlaysCard

/-- THE TIED CARD OF 'rejoinderlaw11.ReplyBack'. -/
def replyBackCard : Claim7 := { stood := { row := replyBackRow, standIns := [], harness := (true, "42d8e0756ef43b3590d0d3c75120fedbc9534b7b02c63070d479df3d0f41ec9e"), looks := false }, kinds := [], alts := [], laidByText := true, laidKinds := [.data, .pinned], laidTests := true, laidLooks := .later }
def ReplyBackCardSaid : Prop := Claim7.holds Tryd.pinned (.plain (OpenSpec.ofChange replyBackSpec)) replyBackCard

/-- THE TIED CARD OF 'rejoinderlaw11.ReplyBodies'. -/
def replyBodiesCard : Claim7 := { stood := { row := replyBodiesRow, standIns := [], harness := (true, "42d8e0756ef43b3590d0d3c75120fedbc9534b7b02c63070d479df3d0f41ec9e"), looks := false }, kinds := [], alts := [], laidByText := true, laidKinds := [.data, .pinned], laidTests := true, laidLooks := .later }
def ReplyBodiesCardSaid : Prop := Claim7.holds Tryd.pinned (.plain (OpenSpec.ofChange replyBodiesSpec)) replyBodiesCard

/-- THE TIED CARD OF 'rejoinderlaw11.ReplyNext'. -/
def replyNextCard : Claim7 := { stood := { row := replyNextRow, standIns := [], harness := (true, "42d8e0756ef43b3590d0d3c75120fedbc9534b7b02c63070d479df3d0f41ec9e"), looks := false }, kinds := [], alts := [], laidByText := true, laidKinds := [.data, .pinned], laidTests := true, laidLooks := .later }
def ReplyNextCardSaid : Prop := Claim7.holds Tryd.pinned (.plain (OpenSpec.ofChange replyNextSpec)) replyNextCard

/-- THE TIED CARD OF 'rejoinderlaw11.ReplyCodes'. -/
def replyCodesCard : Claim7 := { stood := { row := replyCodesRow, standIns := [], harness := (true, "42d8e0756ef43b3590d0d3c75120fedbc9534b7b02c63070d479df3d0f41ec9e"), looks := false }, kinds := [], alts := [], laidByText := true, laidKinds := [.data, .pinned], laidTests := true, laidLooks := .later }
def ReplyCodesCardSaid : Prop := Claim7.holds Tryd.pinned (.plain (OpenSpec.ofChange replyCodesSpec)) replyCodesCard

/-- THE TIED CARD OF 'rejoinderlaw11.ReplyMany'. -/
def replyManyCard : Claim7 := { stood := { row := replyManyRow, standIns := [], harness := (true, "42d8e0756ef43b3590d0d3c75120fedbc9534b7b02c63070d479df3d0f41ec9e"), looks := false }, kinds := [], alts := [], laidByText := true, laidKinds := [.data, .pinned], laidTests := true, laidLooks := .later }
def ReplyManyCardSaid : Prop := Claim7.holds Tryd.pinned (.plain (OpenSpec.ofChange replyManySpec)) replyManyCard

/-- THE SECOND FORM's CARD OF 'rejoinderlaw11.ReplyPlays'. -/
def replyPlaysUptoCard : Claim7 := { stood := { row := replyPlaysUptoRow, standIns := [], harness := (true, "42d8e0756ef43b3590d0d3c75120fedbc9534b7b02c63070d479df3d0f41ec9e"), looks := false }, kinds := [], alts := [], laidByText := true, laidKinds := [.data, .pinned], laidTests := true, laidLooks := .later }
def ReplyPlaysUptoCardSaid : Prop := Claim7.holds Tryd.pinned (.plain (OpenSpec.upto replyPlaysSpec)) replyPlaysUptoCard

/-- THE SECOND FORM's CARD OF 'rejoinderlaw11.ReplyBack'. -/
def replyBackUptoCard : Claim7 := { stood := { row := replyBackUptoRow, standIns := [], harness := (true, "42d8e0756ef43b3590d0d3c75120fedbc9534b7b02c63070d479df3d0f41ec9e"), looks := false }, kinds := [], alts := [], laidByText := true, laidKinds := [.data, .pinned], laidTests := true, laidLooks := .later }
def ReplyBackUptoCardSaid : Prop := Claim7.holds Tryd.pinned (.plain (OpenSpec.upto replyBackSpec)) replyBackUptoCard

/-- THE SECOND FORM's CARD OF 'rejoinderlaw11.ReplyBodies'. -/
def replyBodiesUptoCard : Claim7 := { stood := { row := replyBodiesUptoRow, standIns := [], harness := (true, "42d8e0756ef43b3590d0d3c75120fedbc9534b7b02c63070d479df3d0f41ec9e"), looks := false }, kinds := [], alts := [], laidByText := true, laidKinds := [.data, .pinned], laidTests := true, laidLooks := .later }
def ReplyBodiesUptoCardSaid : Prop := Claim7.holds Tryd.pinned (.plain (OpenSpec.upto replyBodiesSpec)) replyBodiesUptoCard

/-- THE SECOND FORM's CARD OF 'rejoinderlaw11.ReplyNext'. -/
def replyNextUptoCard : Claim7 := { stood := { row := replyNextUptoRow, standIns := [], harness := (true, "42d8e0756ef43b3590d0d3c75120fedbc9534b7b02c63070d479df3d0f41ec9e"), looks := false }, kinds := [], alts := [], laidByText := true, laidKinds := [.data, .pinned], laidTests := true, laidLooks := .later }
def ReplyNextUptoCardSaid : Prop := Claim7.holds Tryd.pinned (.plain (OpenSpec.upto replyNextSpec)) replyNextUptoCard

/-- THE SECOND FORM's CARD OF 'rejoinderlaw11.ReplyCodes'. -/
def replyCodesUptoCard : Claim7 := { stood := { row := replyCodesUptoRow, standIns := [], harness := (true, "42d8e0756ef43b3590d0d3c75120fedbc9534b7b02c63070d479df3d0f41ec9e"), looks := false }, kinds := [], alts := [], laidByText := true, laidKinds := [.data, .pinned], laidTests := true, laidLooks := .later }
def ReplyCodesUptoCardSaid : Prop := Claim7.holds Tryd.pinned (.plain (OpenSpec.upto replyCodesSpec)) replyCodesUptoCard

/-- THE SECOND FORM's CARD OF 'rejoinderlaw11.ReplyMany'. -/
def replyManyUptoCard : Claim7 := { stood := { row := replyManyUptoRow, standIns := [], harness := (true, "42d8e0756ef43b3590d0d3c75120fedbc9534b7b02c63070d479df3d0f41ec9e"), looks := false }, kinds := [], alts := [], laidByText := true, laidKinds := [.data, .pinned], laidTests := true, laidLooks := .later }
def ReplyManyUptoCardSaid : Prop := Claim7.holds Tryd.pinned (.plain (OpenSpec.upto replyManySpec)) replyManyUptoCard
end Rows
end Go.Proofs.YtamemddgajmimaaDoor
