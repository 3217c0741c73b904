/-
  DERIVED. GIVEN WITH THE SEED: THE CARDS: each row of YtcggpedebcamdaaDoorRows.lean that lists a variable, with what it lists TIED to the program's text (the seventh form; the later family's looks); each row that meets fmt, with fmt's text TOLD by the authors' own Lean function (tested against real Go, not proved from fmt's source: count such statements apart). THE CARD IS WHAT COUNTS. Prove the row's statement (the work); the ties are given (YtcggpedebcamdaaDoorTie.lean); close each card by the builder's one call (the guide's Derived/Test/ToyasCard.lean, 'card_holds'). Laid BY PROGRAM, IN A SANDBOX (cutbox-door.mjs). By AI agents, Wed Nov 11 2026. No macro, syntax, notation, axiom, sorry.
-/
import Derived.Test.YtcggpedebcamdaaDoorRows
import GoSem.ClaimSeven
namespace Go.Proofs.YtcggpedebcamdaaDoor
namespace Rows

/-- THE TIED CARD OF 'rejoinderlaw16.VarsSets'. -/
def varsSetsCard : Claim7 := { stood := { row := varsSetsRow, standIns := [], harness := (true, "fd0166832391270db9f8021f69f1b0e0caa58e2a73b79566624321bee2d52e65"), looks := true }, kinds := [], alts := [], laidByText := true, laidKinds := [.data, .pinned], laidTests := true, laidLooks := .later }
def VarsSetsCardSaid : Prop := Claim7.holds Tryd.pinned (.plain (OpenSpec.ofChange varsSetsSpec)) varsSetsCard

/-- THE TIED CARD OF 'rejoinderlaw16.VarsMany'. -/
def varsManyCard : Claim7 := { stood := { row := varsManyRow, standIns := [], harness := (true, "fd0166832391270db9f8021f69f1b0e0caa58e2a73b79566624321bee2d52e65"), looks := true }, kinds := [], alts := [], laidByText := true, laidKinds := [.data, .pinned], laidTests := true, laidLooks := .later }
def VarsManyCardSaid : Prop := Claim7.holds Tryd.pinned (.plain (OpenSpec.ofChange varsManySpec)) varsManyCard

/-- THE TIED CARD OF 'rejoinderlaw16.VarsPlain'. -/
def varsPlainCard : Claim7 := { stood := { row := varsPlainRow, standIns := [], harness := (true, "fd0166832391270db9f8021f69f1b0e0caa58e2a73b79566624321bee2d52e65"), looks := true }, kinds := [], alts := [], laidByText := true, laidKinds := [.data, .pinned], laidTests := true, laidLooks := .later }
def VarsPlainCardSaid : Prop := Claim7.holds Tryd.pinned (.plain (OpenSpec.ofChange varsPlainSpec)) varsPlainCard

/-- THE TIED CARD OF 'rejoinderlaw16.VarsParts'. -/
def varsPartsCard : Claim7 := { stood := { row := varsPartsRow, standIns := [], harness := (true, "fd0166832391270db9f8021f69f1b0e0caa58e2a73b79566624321bee2d52e65"), looks := true }, kinds := [], alts := [], laidByText := true, laidKinds := [.data, .pinned], laidTests := true, laidLooks := .later }
def VarsPartsCardSaid : Prop := Claim7.holds Tryd.pinned (.plain (OpenSpec.ofChange varsPartsSpec)) varsPartsCard

/-- THE TIED CARD OF 'rejoinderlaw16.VarsPlays'. -/
def varsPlaysCard : Claim7 := { stood := { row := varsPlaysRow, standIns := [], harness := (true, "fd0166832391270db9f8021f69f1b0e0caa58e2a73b79566624321bee2d52e65"), looks := true }, kinds := [], alts := [], laidByText := true, laidKinds := [.data, .pinned], laidTests := true, laidLooks := .later }
def VarsPlaysCardSaid : Prop := Claim7.holds Tryd.pinned (.plain (OpenSpec.ofChange varsPlaysSpec)) varsPlaysCard

/-- THE SECOND FORM's CARD OF 'rejoinderlaw16.VarsSets'. -/
def varsSetsUptoCard : Claim7 := { stood := { row := varsSetsUptoRow, standIns := [], harness := (true, "fd0166832391270db9f8021f69f1b0e0caa58e2a73b79566624321bee2d52e65"), looks := true }, kinds := [], alts := [], laidByText := true, laidKinds := [.data, .pinned], laidTests := true, laidLooks := .later }
def VarsSetsUptoCardSaid : Prop := Claim7.holds Tryd.pinned (.plain (OpenSpec.upto varsSetsSpec)) varsSetsUptoCard

/-- THE SECOND FORM's CARD OF 'rejoinderlaw16.VarsMany'. -/
def varsManyUptoCard : Claim7 := { stood := { row := varsManyUptoRow, standIns := [], harness := (true, "fd0166832391270db9f8021f69f1b0e0caa58e2a73b79566624321bee2d52e65"), looks := true }, kinds := [], alts := [], laidByText := true, laidKinds := [.data, .pinned], laidTests := true, laidLooks := .later }
def VarsManyUptoCardSaid : Prop := Claim7.holds Tryd.pinned (.plain (OpenSpec.upto varsManySpec)) varsManyUptoCard

/-- THE SECOND FORM's CARD OF 'rejoinderlaw16.VarsPlain'. -/
def varsPlainUptoCard : Claim7 := { stood := { row := varsPlainUptoRow, standIns := [], harness := (true, "fd0166832391270db9f8021f69f1b0e0caa58e2a73b79566624321bee2d52e65"), looks := true }, kinds := [], alts := [], laidByText := true, laidKinds := [.data, .pinned], laidTests := true, laidLooks := .later }
def VarsPlainUptoCardSaid : Prop := Claim7.holds Tryd.pinned (.plain (OpenSpec.upto varsPlainSpec)) varsPlainUptoCard

/-- THE SECOND FORM's CARD OF 'rejoinderlaw16.VarsParts'. -/
def varsPartsUptoCard : Claim7 := { stood := { row := varsPartsUptoRow, standIns := [], harness := (true, "fd0166832391270db9f8021f69f1b0e0caa58e2a73b79566624321bee2d52e65"), looks := true }, kinds := [], alts := [], laidByText := true, laidKinds := [.data, .pinned], laidTests := true, laidLooks := .later }
def VarsPartsUptoCardSaid : Prop := Claim7.holds Tryd.pinned (.plain (OpenSpec.upto varsPartsSpec)) varsPartsUptoCard

/-- THE SECOND FORM's CARD OF 'rejoinderlaw16.VarsPlays'. -/
def varsPlaysUptoCard : Claim7 := { stood := { row := varsPlaysUptoRow, standIns := [], harness := (true, "fd0166832391270db9f8021f69f1b0e0caa58e2a73b79566624321bee2d52e65"), looks := true }, kinds := [], alts := [], laidByText := true, laidKinds := [.data, .pinned], laidTests := true, laidLooks := .later }
def VarsPlaysUptoCardSaid : Prop := Claim7.holds Tryd.pinned (.plain (OpenSpec.upto varsPlaysSpec)) varsPlaysUptoCard
end Rows
end Go.Proofs.YtcggpedebcamdaaDoor
