/-
  NARROWER THAN 'FOR EVERY INPUT', by the rows' own cells (each row's printed sentence says how): VarsSets: laid · VarsMany: laid · VarsPlain: laid · VarsParts: laid · VarsPlays: laid.
  DERIVED. THE GIVEN ROWS OF THIS SEAT. 5 by the template 'for every input the law returns true; each argument reads behind the call as it read before'; 0 by the template 'total and deterministic' (their statements: YtcggpedebcamdaaDoorTotals.lean).
  GIVEN WITH THE SEED: the statements are not yours to turn. If you find one false, say at which input.
  Laid BY PROGRAM, IN A SANDBOX (cutbox-rows.mjs): the forced cells as the released guide's own fill.sh prints them over the translation 08b867f1dc2fe4d3… (all of the seat's roots in one cut). By AI agents, Wed Nov 11 2026. No macro, syntax, notation, axiom, sorry.
-/
import Derived.Test.YtcggpedebcamdaaDoorChecked
import GoSem.PinnedTables
import GoSem.Claim
import GoSem.ClaimJoined
import GoSem.ClaimMapViews
import Derived.JoinedTies
import Derived.KernelRfl
namespace Go.Proofs.YtcggpedebcamdaaDoor
/- THE CELL 'sum', in the pinned program and in every row, IS THE sha256 OF THE DUMP (.gsa) THAT YtcggpedebcamdaaDoorProg.lean LOADS. Nothing in Lean hashes anything: it is a label: what it is worth is what the hold of that sum in a sandbox is worth. -/
noncomputable def Tryd.pinned : Pinned := { name := "ytcggpedebcamdaadoor", sum := "08b867f1dc2fe4d3034db5308a13cdff2181b4c3d169e3819df7a7492ffd468b", checked := Tryd.checked }
namespace Rows
def none {H : Type} : Left H := { results := [], args := [] }

/- WHAT THE LISTED PACKAGE-LEVEL VARIABLES READ AS WHEN THE CALL BEGINS. Each datum BY PROGRAM (the guide's laid-datum.mjs) off the statement by which the dump's own 'gosem.cut.vars' lays the variable. In a bare row this is a premise. The card (YtcggpedebcamdaaDoorCards.lean) ties it to the program's text. -/
def laid_unicode_utf8_acceptRanges {H : Type} : DataW H := .agg [.agg [.lit (.int .u8 128), .lit (.int .u8 191)], .agg [.lit (.int .u8 160), .lit (.int .u8 191)], .agg [.lit (.int .u8 128), .lit (.int .u8 159)], .agg [.lit (.int .u8 144), .lit (.int .u8 191)], .agg [.lit (.int .u8 128), .lit (.int .u8 143)], .agg [.lit (.int .u8 0), .lit (.int .u8 0)], .agg [.lit (.int .u8 0), .lit (.int .u8 0)], .agg [.lit (.int .u8 0), .lit (.int .u8 0)], .agg [.lit (.int .u8 0), .lit (.int .u8 0)], .agg [.lit (.int .u8 0), .lit (.int .u8 0)], .agg [.lit (.int .u8 0), .lit (.int .u8 0)], .agg [.lit (.int .u8 0), .lit (.int .u8 0)], .agg [.lit (.int .u8 0), .lit (.int .u8 0)], .agg [.lit (.int .u8 0), .lit (.int .u8 0)], .agg [.lit (.int .u8 0), .lit (.int .u8 0)], .agg [.lit (.int .u8 0), .lit (.int .u8 0)]]
/-- One of Go's own tables, pinned by name: the form's constant. -/
def laid_unicode_utf8_first : DataW Unit := Go.Pinned.utf8First

/-- 'rejoinderlaw16.VarsSets': WHATEVER THE INPUT: true; the input reads as it did. -/
def varsSetsSpec : ChangeSpec := { name := "varsSets", fn := fun _ => fun
  | [d1, d2, d3] => { results := [.lit (.bool true)], args := [d1, d2, d3] }
  | _ => none }
def varsSetsRow : OpenClaim := { program := "ytcggpedebcamdaadoor", sum := "08b867f1dc2fe4d3034db5308a13cdff2181b4c3d169e3819df7a7492ffd468b", func := "rejoinder/rejoinderlaw16.VarsSets", spec := "varsSets", inPlace := ["internal/abi.NoEscape", "internal/bytealg.IndexByteString", "internal/bytealg.IndexString"], unfollowed := true, recurses := true, named := ["internal/bytealg.MaxLen", "unicode/utf8.first", "unicode/utf8.acceptRanges"], apart := false, laid := [("unicode/utf8.acceptRanges", laid_unicode_utf8_acceptRanges), ("unicode/utf8.first", laid_unicode_utf8_first)] }
def VarsSetsSaid : Prop := varsSetsRow.holds Tryd.pinned (OpenSpec.ofChange varsSetsSpec)

/-- ITS FALSE NEIGHBOUR: 'it returns false'. Refute it at one input. -/
def varsSetsWrong : ChangeSpec := { name := "varsSets", fn := fun _ => fun
  | [d1, d2, d3] => { results := [.lit (.bool false)], args := [d1, d2, d3] }
  | _ => none }
def VarsSetsWrongFalsely : Prop := varsSetsRow.holds Tryd.pinned (OpenSpec.ofChange varsSetsWrong)

/-- 'rejoinderlaw16.VarsMany': WHATEVER THE INPUT: true; the input reads as it did. -/
def varsManySpec : ChangeSpec := { name := "varsMany", fn := fun _ => fun
  | [d1, d2] => { results := [.lit (.bool true)], args := [d1, d2] }
  | _ => none }
def varsManyRow : OpenClaim := { program := "ytcggpedebcamdaadoor", sum := "08b867f1dc2fe4d3034db5308a13cdff2181b4c3d169e3819df7a7492ffd468b", func := "rejoinder/rejoinderlaw16.VarsMany", spec := "varsMany", inPlace := ["internal/abi.NoEscape", "internal/bytealg.IndexByteString", "internal/bytealg.IndexString"], unfollowed := true, recurses := true, named := ["internal/bytealg.MaxLen", "unicode/utf8.first", "unicode/utf8.acceptRanges"], apart := false, laid := [("unicode/utf8.acceptRanges", laid_unicode_utf8_acceptRanges), ("unicode/utf8.first", laid_unicode_utf8_first)] }
def VarsManySaid : Prop := varsManyRow.holds Tryd.pinned (OpenSpec.ofChange varsManySpec)

/-- ITS FALSE NEIGHBOUR: 'it returns false'. Refute it at one input. -/
def varsManyWrong : ChangeSpec := { name := "varsMany", fn := fun _ => fun
  | [d1, d2] => { results := [.lit (.bool false)], args := [d1, d2] }
  | _ => none }
def VarsManyWrongFalsely : Prop := varsManyRow.holds Tryd.pinned (OpenSpec.ofChange varsManyWrong)

/-- 'rejoinderlaw16.VarsPlain': WHATEVER THE INPUT: true; the input reads as it did. -/
def varsPlainSpec : ChangeSpec := { name := "varsPlain", fn := fun _ => fun
  | [d] => { results := [.lit (.bool true)], args := [d] }
  | _ => none }
def varsPlainRow : OpenClaim := { program := "ytcggpedebcamdaadoor", sum := "08b867f1dc2fe4d3034db5308a13cdff2181b4c3d169e3819df7a7492ffd468b", func := "rejoinder/rejoinderlaw16.VarsPlain", spec := "varsPlain", inPlace := ["internal/abi.NoEscape", "internal/bytealg.IndexByteString", "internal/bytealg.IndexString"], unfollowed := true, recurses := true, named := ["internal/bytealg.MaxLen", "unicode/utf8.first", "unicode/utf8.acceptRanges"], apart := false, laid := [("unicode/utf8.acceptRanges", laid_unicode_utf8_acceptRanges), ("unicode/utf8.first", laid_unicode_utf8_first)] }
def VarsPlainSaid : Prop := varsPlainRow.holds Tryd.pinned (OpenSpec.ofChange varsPlainSpec)

/-- ITS FALSE NEIGHBOUR: 'it returns false'. Refute it at one input. -/
def varsPlainWrong : ChangeSpec := { name := "varsPlain", fn := fun _ => fun
  | [d] => { results := [.lit (.bool false)], args := [d] }
  | _ => none }
def VarsPlainWrongFalsely : Prop := varsPlainRow.holds Tryd.pinned (OpenSpec.ofChange varsPlainWrong)

/-- 'rejoinderlaw16.VarsParts': WHATEVER THE INPUT: true; the input reads as it did. -/
def varsPartsSpec : ChangeSpec := { name := "varsParts", fn := fun _ => fun
  | [d1, d2, d3] => { results := [.lit (.bool true)], args := [d1, d2, d3] }
  | _ => none }
def varsPartsRow : OpenClaim := { program := "ytcggpedebcamdaadoor", sum := "08b867f1dc2fe4d3034db5308a13cdff2181b4c3d169e3819df7a7492ffd468b", func := "rejoinder/rejoinderlaw16.VarsParts", spec := "varsParts", inPlace := ["internal/abi.NoEscape", "internal/bytealg.IndexByteString", "internal/bytealg.IndexString"], unfollowed := true, recurses := true, named := ["internal/bytealg.MaxLen", "unicode/utf8.first", "unicode/utf8.acceptRanges"], apart := false, laid := [("unicode/utf8.acceptRanges", laid_unicode_utf8_acceptRanges), ("unicode/utf8.first", laid_unicode_utf8_first)] }
def VarsPartsSaid : Prop := varsPartsRow.holds Tryd.pinned (OpenSpec.ofChange varsPartsSpec)

/-- ITS FALSE NEIGHBOUR: 'it returns false'. Refute it at one input. -/
def varsPartsWrong : ChangeSpec := { name := "varsParts", fn := fun _ => fun
  | [d1, d2, d3] => { results := [.lit (.bool false)], args := [d1, d2, d3] }
  | _ => none }
def VarsPartsWrongFalsely : Prop := varsPartsRow.holds Tryd.pinned (OpenSpec.ofChange varsPartsWrong)

/-- 'rejoinderlaw16.VarsPlays': WHATEVER THE INPUT: true; the input reads as it did. -/
def varsPlaysSpec : ChangeSpec := { name := "varsPlays", fn := fun _ => fun
  | [d] => { results := [.lit (.bool true)], args := [d] }
  | _ => none }
def varsPlaysRow : OpenClaim := { program := "ytcggpedebcamdaadoor", sum := "08b867f1dc2fe4d3034db5308a13cdff2181b4c3d169e3819df7a7492ffd468b", func := "rejoinder/rejoinderlaw16.VarsPlays", spec := "varsPlays", inPlace := ["internal/abi.NoEscape", "internal/bytealg.IndexByteString", "internal/bytealg.IndexString", "maps.clone"], unfollowed := true, recurses := true, named := ["internal/bytealg.MaxLen", "unicode/utf8.first", "unicode/utf8.acceptRanges"], apart := false, laid := [("unicode/utf8.acceptRanges", laid_unicode_utf8_acceptRanges), ("unicode/utf8.first", laid_unicode_utf8_first)] }
def VarsPlaysSaid : Prop := varsPlaysRow.holds Tryd.pinned (OpenSpec.ofChange varsPlaysSpec)

/-- ITS FALSE NEIGHBOUR: 'it returns false'. Refute it at one input. -/
def varsPlaysWrong : ChangeSpec := { name := "varsPlays", fn := fun _ => fun
  | [d] => { results := [.lit (.bool false)], args := [d] }
  | _ => none }
def VarsPlaysWrongFalsely : Prop := varsPlaysRow.holds Tryd.pinned (OpenSpec.ofChange varsPlaysWrong)

/- THE SECOND FORM. 'bulk': how many values and letters a reading holds, each counted each time it is reached (what is shared counts as often as it is met; a slice's spare places count too). A statement '..UptoSaid' is the law's where the arguments, and the package variables that the reading takes, are together of bulk at most 1048576: NARROWER than '..Said'. Prove '..Said' where nothing that the law and all that it calls make is longer than what came in: it says more and counts as full. Else prove '..UptoSaid'. A law counts once. -/
mutual
def uptoBulk {H : Type} : DataW H → Nat
  | .lit (.string bytes) => bytes.length + 1
  | .lit _ => 1
  | .nil => 1
  | .ptr d => uptoBulk d + 1
  | .slice elems spare => uptoBulkAll elems + uptoBulkAll spare + 1
  | .agg parts => uptoBulkAll parts + 1
  | .iface _ d => uptoBulk d + 1
  | .map entries => uptoBulkEntries entries + 1
  | .held _ => 1
def uptoBulkAll {H : Type} : List (DataW H) → Nat
  | [] => 0
  | d :: r => uptoBulk d + uptoBulkAll r
def uptoBulkEntries {H : Type} : List (Lit × DataW H) → Nat
  | [] => 0
  | x :: r => uptoBulkEntry x + uptoBulkEntries r
def uptoBulkEntry {H : Type} : Lit × DataW H → Nat
  | (.string bytes, d) => bytes.length + uptoBulk d + 1
  | (_, d) => uptoBulk d + 1
 end
def uptoSmall : (H : Type) → List (DataW H) → Bool := fun _ ds => decide (uptoBulkAll ds ≤ 1048576)
def OpenSpec.upto (s : _root_.Go.ChangeSpec) : _root_.Go.OpenSpec := { _root_.Go.OpenSpec.ofChange s with cond := some uptoSmall }

/-- 'rejoinderlaw16.VarsSets', WHERE WHAT IT READS IS OF BULK AT MOST 1048576: true; the input reads as it did. -/
def varsSetsUptoRow : OpenClaim := { program := "ytcggpedebcamdaadoor", sum := "08b867f1dc2fe4d3034db5308a13cdff2181b4c3d169e3819df7a7492ffd468b", func := "rejoinder/rejoinderlaw16.VarsSets", spec := "varsSets", inPlace := ["internal/abi.NoEscape", "internal/bytealg.IndexByteString", "internal/bytealg.IndexString"], unfollowed := true, recurses := true, named := ["internal/bytealg.MaxLen", "unicode/utf8.first", "unicode/utf8.acceptRanges"], apart := false, laid := [("unicode/utf8.acceptRanges", laid_unicode_utf8_acceptRanges), ("unicode/utf8.first", laid_unicode_utf8_first)], narrowed := true }
def VarsSetsUptoSaid : Prop := varsSetsUptoRow.holds Tryd.pinned (OpenSpec.upto varsSetsSpec)

/-- 'rejoinderlaw16.VarsMany', WHERE WHAT IT READS IS OF BULK AT MOST 1048576: true; the input reads as it did. -/
def varsManyUptoRow : OpenClaim := { program := "ytcggpedebcamdaadoor", sum := "08b867f1dc2fe4d3034db5308a13cdff2181b4c3d169e3819df7a7492ffd468b", func := "rejoinder/rejoinderlaw16.VarsMany", spec := "varsMany", inPlace := ["internal/abi.NoEscape", "internal/bytealg.IndexByteString", "internal/bytealg.IndexString"], unfollowed := true, recurses := true, named := ["internal/bytealg.MaxLen", "unicode/utf8.first", "unicode/utf8.acceptRanges"], apart := false, laid := [("unicode/utf8.acceptRanges", laid_unicode_utf8_acceptRanges), ("unicode/utf8.first", laid_unicode_utf8_first)], narrowed := true }
def VarsManyUptoSaid : Prop := varsManyUptoRow.holds Tryd.pinned (OpenSpec.upto varsManySpec)

/-- 'rejoinderlaw16.VarsPlain', WHERE WHAT IT READS IS OF BULK AT MOST 1048576: true; the input reads as it did. -/
def varsPlainUptoRow : OpenClaim := { program := "ytcggpedebcamdaadoor", sum := "08b867f1dc2fe4d3034db5308a13cdff2181b4c3d169e3819df7a7492ffd468b", func := "rejoinder/rejoinderlaw16.VarsPlain", spec := "varsPlain", inPlace := ["internal/abi.NoEscape", "internal/bytealg.IndexByteString", "internal/bytealg.IndexString"], unfollowed := true, recurses := true, named := ["internal/bytealg.MaxLen", "unicode/utf8.first", "unicode/utf8.acceptRanges"], apart := false, laid := [("unicode/utf8.acceptRanges", laid_unicode_utf8_acceptRanges), ("unicode/utf8.first", laid_unicode_utf8_first)], narrowed := true }
def VarsPlainUptoSaid : Prop := varsPlainUptoRow.holds Tryd.pinned (OpenSpec.upto varsPlainSpec)

/-- 'rejoinderlaw16.VarsParts', WHERE WHAT IT READS IS OF BULK AT MOST 1048576: true; the input reads as it did. -/
def varsPartsUptoRow : OpenClaim := { program := "ytcggpedebcamdaadoor", sum := "08b867f1dc2fe4d3034db5308a13cdff2181b4c3d169e3819df7a7492ffd468b", func := "rejoinder/rejoinderlaw16.VarsParts", spec := "varsParts", inPlace := ["internal/abi.NoEscape", "internal/bytealg.IndexByteString", "internal/bytealg.IndexString"], unfollowed := true, recurses := true, named := ["internal/bytealg.MaxLen", "unicode/utf8.first", "unicode/utf8.acceptRanges"], apart := false, laid := [("unicode/utf8.acceptRanges", laid_unicode_utf8_acceptRanges), ("unicode/utf8.first", laid_unicode_utf8_first)], narrowed := true }
def VarsPartsUptoSaid : Prop := varsPartsUptoRow.holds Tryd.pinned (OpenSpec.upto varsPartsSpec)

/-- 'rejoinderlaw16.VarsPlays', WHERE WHAT IT READS IS OF BULK AT MOST 1048576: true; the input reads as it did. -/
def varsPlaysUptoRow : OpenClaim := { program := "ytcggpedebcamdaadoor", sum := "08b867f1dc2fe4d3034db5308a13cdff2181b4c3d169e3819df7a7492ffd468b", func := "rejoinder/rejoinderlaw16.VarsPlays", spec := "varsPlays", inPlace := ["internal/abi.NoEscape", "internal/bytealg.IndexByteString", "internal/bytealg.IndexString", "maps.clone"], unfollowed := true, recurses := true, named := ["internal/bytealg.MaxLen", "unicode/utf8.first", "unicode/utf8.acceptRanges"], apart := false, laid := [("unicode/utf8.acceptRanges", laid_unicode_utf8_acceptRanges), ("unicode/utf8.first", laid_unicode_utf8_first)], narrowed := true }
def VarsPlaysUptoSaid : Prop := varsPlaysUptoRow.holds Tryd.pinned (OpenSpec.upto varsPlaysSpec)

end Rows
end Go.Proofs.YtcggpedebcamdaaDoor
