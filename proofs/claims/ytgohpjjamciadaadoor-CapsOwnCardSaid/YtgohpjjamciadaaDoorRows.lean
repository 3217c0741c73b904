/-
  NARROWER THAN 'FOR EVERY INPUT', by the rows' own cells (each row's printed sentence says how): CapsAll: laid · CapsOwn: laid · CapsLines: laid · CapsTurns: laid · CapsEach: laid.
  DERIVED. THE GIVEN ROWS OF THIS SEAT. 5 by the template 'for every input the law returns true; each argument reads behind the call as it read before'; 0 by the template 'total and deterministic' (their statements: YtgohpjjamciadaaDoorTotals.lean).
  GIVEN WITH THE SEED: the statements are not yours to turn. If you find one false, say at which input.
  Laid BY PROGRAM, IN A SANDBOX (cutbox-rows.mjs): the forced cells as the released guide's own fill.sh prints them over the translation 8410f3e5222e7c8d… (all of the seat's roots in one cut). By AI agents, Wed Nov 11 2026. No macro, syntax, notation, axiom, sorry.
-/
import Derived.Test.YtgohpjjamciadaaDoorChecked
import GoSem.PinnedTables
import GoSem.Claim
import GoSem.ClaimJoined
import GoSem.ClaimMapViews
import Derived.JoinedTies
import Derived.KernelRfl
namespace Go.Proofs.YtgohpjjamciadaaDoor
/- THE CELL 'sum', in the pinned program and in every row, IS THE sha256 OF THE DUMP (.gsa) THAT YtgohpjjamciadaaDoorProg.lean LOADS. Nothing in Lean hashes anything: it is a label: what it is worth is what the hold of that sum in a sandbox is worth. -/
noncomputable def Tryd.pinned : Pinned := { name := "ytgohpjjamciadaadoor", sum := "8410f3e5222e7c8d9e9359bc6504a46fc96e9a0dd89d26135f92e8e6f3fcbc77", checked := Tryd.checked }
namespace Rows
def none {H : Type} : Left H := { results := [], args := [] }

/- WHAT THE LISTED PACKAGE-LEVEL VARIABLES READ AS WHEN THE CALL BEGINS. Each datum BY PROGRAM (the guide's laid-datum.mjs) off the statement by which the dump's own 'gosem.cut.vars' lays the variable. In a bare row this is a premise. The card (YtgohpjjamciadaaDoorCards.lean) ties it to the program's text. -/
def laid_unicode_utf8_acceptRanges {H : Type} : DataW H := .agg [.agg [.lit (.int .u8 128), .lit (.int .u8 191)], .agg [.lit (.int .u8 160), .lit (.int .u8 191)], .agg [.lit (.int .u8 128), .lit (.int .u8 159)], .agg [.lit (.int .u8 144), .lit (.int .u8 191)], .agg [.lit (.int .u8 128), .lit (.int .u8 143)], .agg [.lit (.int .u8 0), .lit (.int .u8 0)], .agg [.lit (.int .u8 0), .lit (.int .u8 0)], .agg [.lit (.int .u8 0), .lit (.int .u8 0)], .agg [.lit (.int .u8 0), .lit (.int .u8 0)], .agg [.lit (.int .u8 0), .lit (.int .u8 0)], .agg [.lit (.int .u8 0), .lit (.int .u8 0)], .agg [.lit (.int .u8 0), .lit (.int .u8 0)], .agg [.lit (.int .u8 0), .lit (.int .u8 0)], .agg [.lit (.int .u8 0), .lit (.int .u8 0)], .agg [.lit (.int .u8 0), .lit (.int .u8 0)], .agg [.lit (.int .u8 0), .lit (.int .u8 0)]]
/-- One of Go's own tables, pinned by name: the form's constant. -/
def laid_unicode_utf8_first : DataW Unit := Go.Pinned.utf8First

/-- 'rejoinderlaw12.CapsAll': WHATEVER THE INPUT: true; the input reads as it did. -/
def capsAllSpec : ChangeSpec := { name := "capsAll", fn := fun _ => fun
  | [d1, d2, d3] => { results := [.lit (.bool true)], args := [d1, d2, d3] }
  | _ => none }
def capsAllRow : OpenClaim := { program := "ytgohpjjamciadaadoor", sum := "8410f3e5222e7c8d9e9359bc6504a46fc96e9a0dd89d26135f92e8e6f3fcbc77", func := "rejoinder/rejoinderlaw12.CapsAll", spec := "capsAll", inPlace := ["internal/bytealg.CountString", "internal/bytealg.IndexByteString", "internal/bytealg.IndexString", "internal/abi.NoEscape", "internal/bytealg.MakeNoZero"], unfollowed := true, recurses := true, named := ["unicode/utf8.first", "unicode/utf8.acceptRanges", "internal/bytealg.MaxLen"], apart := false, laid := [("unicode/utf8.acceptRanges", laid_unicode_utf8_acceptRanges), ("unicode/utf8.first", laid_unicode_utf8_first)] }
def CapsAllSaid : Prop := capsAllRow.holds Tryd.pinned (OpenSpec.ofChange capsAllSpec)

/-- ITS FALSE NEIGHBOUR: 'it returns false'. Refute it at one input. -/
def capsAllWrong : ChangeSpec := { name := "capsAll", fn := fun _ => fun
  | [d1, d2, d3] => { results := [.lit (.bool false)], args := [d1, d2, d3] }
  | _ => none }
def CapsAllWrongFalsely : Prop := capsAllRow.holds Tryd.pinned (OpenSpec.ofChange capsAllWrong)

/-- 'rejoinderlaw12.CapsOwn': WHATEVER THE INPUT: true; the input reads as it did. -/
def capsOwnSpec : ChangeSpec := { name := "capsOwn", fn := fun _ => fun
  | [d1, d2] => { results := [.lit (.bool true)], args := [d1, d2] }
  | _ => none }
def capsOwnRow : OpenClaim := { program := "ytgohpjjamciadaadoor", sum := "8410f3e5222e7c8d9e9359bc6504a46fc96e9a0dd89d26135f92e8e6f3fcbc77", func := "rejoinder/rejoinderlaw12.CapsOwn", spec := "capsOwn", inPlace := ["internal/bytealg.CountString", "internal/bytealg.IndexByteString", "internal/bytealg.IndexString", "internal/abi.NoEscape", "internal/bytealg.MakeNoZero"], unfollowed := true, recurses := true, named := ["unicode/utf8.first", "unicode/utf8.acceptRanges", "internal/bytealg.MaxLen"], apart := false, laid := [("unicode/utf8.acceptRanges", laid_unicode_utf8_acceptRanges), ("unicode/utf8.first", laid_unicode_utf8_first)] }
def CapsOwnSaid : Prop := capsOwnRow.holds Tryd.pinned (OpenSpec.ofChange capsOwnSpec)

/-- ITS FALSE NEIGHBOUR: 'it returns false'. Refute it at one input. -/
def capsOwnWrong : ChangeSpec := { name := "capsOwn", fn := fun _ => fun
  | [d1, d2] => { results := [.lit (.bool false)], args := [d1, d2] }
  | _ => none }
def CapsOwnWrongFalsely : Prop := capsOwnRow.holds Tryd.pinned (OpenSpec.ofChange capsOwnWrong)

/-- 'rejoinderlaw12.CapsLines': WHATEVER THE INPUT: true; the input reads as it did. -/
def capsLinesSpec : ChangeSpec := { name := "capsLines", fn := fun _ => fun
  | [d1, d2, d3] => { results := [.lit (.bool true)], args := [d1, d2, d3] }
  | _ => none }
def capsLinesRow : OpenClaim := { program := "ytgohpjjamciadaadoor", sum := "8410f3e5222e7c8d9e9359bc6504a46fc96e9a0dd89d26135f92e8e6f3fcbc77", func := "rejoinder/rejoinderlaw12.CapsLines", spec := "capsLines", inPlace := ["internal/bytealg.CountString", "internal/bytealg.IndexByteString", "internal/bytealg.IndexString", "internal/abi.NoEscape", "internal/bytealg.MakeNoZero"], unfollowed := true, recurses := true, named := ["unicode/utf8.first", "unicode/utf8.acceptRanges", "internal/bytealg.MaxLen"], apart := false, laid := [("unicode/utf8.acceptRanges", laid_unicode_utf8_acceptRanges), ("unicode/utf8.first", laid_unicode_utf8_first)] }
def CapsLinesSaid : Prop := capsLinesRow.holds Tryd.pinned (OpenSpec.ofChange capsLinesSpec)

/-- ITS FALSE NEIGHBOUR: 'it returns false'. Refute it at one input. -/
def capsLinesWrong : ChangeSpec := { name := "capsLines", fn := fun _ => fun
  | [d1, d2, d3] => { results := [.lit (.bool false)], args := [d1, d2, d3] }
  | _ => none }
def CapsLinesWrongFalsely : Prop := capsLinesRow.holds Tryd.pinned (OpenSpec.ofChange capsLinesWrong)

/-- 'rejoinderlaw12.CapsTurns': WHATEVER THE INPUT: true; the input reads as it did. -/
def capsTurnsSpec : ChangeSpec := { name := "capsTurns", fn := fun _ => fun
  | [d1, d2] => { results := [.lit (.bool true)], args := [d1, d2] }
  | _ => none }
def capsTurnsRow : OpenClaim := { program := "ytgohpjjamciadaadoor", sum := "8410f3e5222e7c8d9e9359bc6504a46fc96e9a0dd89d26135f92e8e6f3fcbc77", func := "rejoinder/rejoinderlaw12.CapsTurns", spec := "capsTurns", inPlace := ["internal/bytealg.CountString", "internal/bytealg.IndexByteString", "internal/bytealg.IndexString", "internal/abi.NoEscape", "internal/bytealg.MakeNoZero"], unfollowed := true, recurses := true, named := ["unicode/utf8.first", "unicode/utf8.acceptRanges", "internal/bytealg.MaxLen"], apart := false, laid := [("unicode/utf8.acceptRanges", laid_unicode_utf8_acceptRanges), ("unicode/utf8.first", laid_unicode_utf8_first)] }
def CapsTurnsSaid : Prop := capsTurnsRow.holds Tryd.pinned (OpenSpec.ofChange capsTurnsSpec)

/-- ITS FALSE NEIGHBOUR: 'it returns false'. Refute it at one input. -/
def capsTurnsWrong : ChangeSpec := { name := "capsTurns", fn := fun _ => fun
  | [d1, d2] => { results := [.lit (.bool false)], args := [d1, d2] }
  | _ => none }
def CapsTurnsWrongFalsely : Prop := capsTurnsRow.holds Tryd.pinned (OpenSpec.ofChange capsTurnsWrong)

/-- 'rejoinderlaw12.CapsEach': WHATEVER THE INPUT: true; the input reads as it did. -/
def capsEachSpec : ChangeSpec := { name := "capsEach", fn := fun _ => fun
  | [d1, d2] => { results := [.lit (.bool true)], args := [d1, d2] }
  | _ => none }
def capsEachRow : OpenClaim := { program := "ytgohpjjamciadaadoor", sum := "8410f3e5222e7c8d9e9359bc6504a46fc96e9a0dd89d26135f92e8e6f3fcbc77", func := "rejoinder/rejoinderlaw12.CapsEach", spec := "capsEach", inPlace := ["internal/bytealg.CountString", "internal/bytealg.IndexByteString", "internal/bytealg.IndexString", "internal/abi.NoEscape", "internal/bytealg.MakeNoZero"], unfollowed := true, recurses := true, named := ["unicode/utf8.first", "unicode/utf8.acceptRanges", "internal/bytealg.MaxLen"], apart := false, laid := [("unicode/utf8.acceptRanges", laid_unicode_utf8_acceptRanges), ("unicode/utf8.first", laid_unicode_utf8_first)] }
def CapsEachSaid : Prop := capsEachRow.holds Tryd.pinned (OpenSpec.ofChange capsEachSpec)

/-- ITS FALSE NEIGHBOUR: 'it returns false'. Refute it at one input. -/
def capsEachWrong : ChangeSpec := { name := "capsEach", fn := fun _ => fun
  | [d1, d2] => { results := [.lit (.bool false)], args := [d1, d2] }
  | _ => none }
def CapsEachWrongFalsely : Prop := capsEachRow.holds Tryd.pinned (OpenSpec.ofChange capsEachWrong)

/- THE SECOND FORM. 'bulk': how many values and letters a reading holds, each counted each time it is reached (what is shared counts as often as it is met; a slice's spare places count too). A statement '..UptoSaid' is the law's where the arguments, and the package variables that the reading takes, are together of bulk at most 1048576: NARROWER than '..Said'. Prove '..Said' where nothing that the law and all that it calls make is longer than what came in: it says more and counts as full. Else prove '..UptoSaid'. A law counts once. -/
mutual
def uptoBulk {H : Type} : DataW H → Nat
  | .lit (.string bytes) => bytes.length + 1
  | .lit _ => 1
  | .nil => 1
  | .ptr d => uptoBulk d + 1
  | .slice elems spare => uptoBulkAll elems + uptoBulkAll spare + 1
  | .agg parts => uptoBulkAll parts + 1
  | .iface _ d => uptoBulk d + 1
  | .map entries => uptoBulkEntries entries + 1
  | .held _ => 1
def uptoBulkAll {H : Type} : List (DataW H) → Nat
  | [] => 0
  | d :: r => uptoBulk d + uptoBulkAll r
def uptoBulkEntries {H : Type} : List (Lit × DataW H) → Nat
  | [] => 0
  | x :: r => uptoBulkEntry x + uptoBulkEntries r
def uptoBulkEntry {H : Type} : Lit × DataW H → Nat
  | (.string bytes, d) => bytes.length + uptoBulk d + 1
  | (_, d) => uptoBulk d + 1
 end
def uptoSmall : (H : Type) → List (DataW H) → Bool := fun _ ds => decide (uptoBulkAll ds ≤ 1048576)
def OpenSpec.upto (s : _root_.Go.ChangeSpec) : _root_.Go.OpenSpec := { _root_.Go.OpenSpec.ofChange s with cond := some uptoSmall }

/-- 'rejoinderlaw12.CapsAll', WHERE WHAT IT READS IS OF BULK AT MOST 1048576: true; the input reads as it did. -/
def capsAllUptoRow : OpenClaim := { program := "ytgohpjjamciadaadoor", sum := "8410f3e5222e7c8d9e9359bc6504a46fc96e9a0dd89d26135f92e8e6f3fcbc77", func := "rejoinder/rejoinderlaw12.CapsAll", spec := "capsAll", inPlace := ["internal/bytealg.CountString", "internal/bytealg.IndexByteString", "internal/bytealg.IndexString", "internal/abi.NoEscape", "internal/bytealg.MakeNoZero"], unfollowed := true, recurses := true, named := ["unicode/utf8.first", "unicode/utf8.acceptRanges", "internal/bytealg.MaxLen"], apart := false, laid := [("unicode/utf8.acceptRanges", laid_unicode_utf8_acceptRanges), ("unicode/utf8.first", laid_unicode_utf8_first)], narrowed := true }
def CapsAllUptoSaid : Prop := capsAllUptoRow.holds Tryd.pinned (OpenSpec.upto capsAllSpec)

/-- 'rejoinderlaw12.CapsOwn', WHERE WHAT IT READS IS OF BULK AT MOST 1048576: true; the input reads as it did. -/
def capsOwnUptoRow : OpenClaim := { program := "ytgohpjjamciadaadoor", sum := "8410f3e5222e7c8d9e9359bc6504a46fc96e9a0dd89d26135f92e8e6f3fcbc77", func := "rejoinder/rejoinderlaw12.CapsOwn", spec := "capsOwn", inPlace := ["internal/bytealg.CountString", "internal/bytealg.IndexByteString", "internal/bytealg.IndexString", "internal/abi.NoEscape", "internal/bytealg.MakeNoZero"], unfollowed := true, recurses := true, named := ["unicode/utf8.first", "unicode/utf8.acceptRanges", "internal/bytealg.MaxLen"], apart := false, laid := [("unicode/utf8.acceptRanges", laid_unicode_utf8_acceptRanges), ("unicode/utf8.first", laid_unicode_utf8_first)], narrowed := true }
def CapsOwnUptoSaid : Prop := capsOwnUptoRow.holds Tryd.pinned (OpenSpec.upto capsOwnSpec)

/-- 'rejoinderlaw12.CapsLines', WHERE WHAT IT READS IS OF BULK AT MOST 1048576: true; the input reads as it did. -/
def capsLinesUptoRow : OpenClaim := { program := "ytgohpjjamciadaadoor", sum := "8410f3e5222e7c8d9e9359bc6504a46fc96e9a0dd89d26135f92e8e6f3fcbc77", func := "rejoinder/rejoinderlaw12.CapsLines", spec := "capsLines", inPlace := ["internal/bytealg.CountString", "internal/bytealg.IndexByteString", "internal/bytealg.IndexString", "internal/abi.NoEscape", "internal/bytealg.MakeNoZero"], unfollowed := true, recurses := true, named := ["unicode/utf8.first", "unicode/utf8.acceptRanges", "internal/bytealg.MaxLen"], apart := false, laid := [("unicode/utf8.acceptRanges", laid_unicode_utf8_acceptRanges), ("unicode/utf8.first", laid_unicode_utf8_first)], narrowed := true }
def CapsLinesUptoSaid : Prop := capsLinesUptoRow.holds Tryd.pinned (OpenSpec.upto capsLinesSpec)

/-- 'rejoinderlaw12.CapsTurns', WHERE WHAT IT READS IS OF BULK AT MOST 1048576: true; the input reads as it did. -/
def capsTurnsUptoRow : OpenClaim := { program := "ytgohpjjamciadaadoor", sum := "8410f3e5222e7c8d9e9359bc6504a46fc96e9a0dd89d26135f92e8e6f3fcbc77", func := "rejoinder/rejoinderlaw12.CapsTurns", spec := "capsTurns", inPlace := ["internal/bytealg.CountString", "internal/bytealg.IndexByteString", "internal/bytealg.IndexString", "internal/abi.NoEscape", "internal/bytealg.MakeNoZero"], unfollowed := true, recurses := true, named := ["unicode/utf8.first", "unicode/utf8.acceptRanges", "internal/bytealg.MaxLen"], apart := false, laid := [("unicode/utf8.acceptRanges", laid_unicode_utf8_acceptRanges), ("unicode/utf8.first", laid_unicode_utf8_first)], narrowed := true }
def CapsTurnsUptoSaid : Prop := capsTurnsUptoRow.holds Tryd.pinned (OpenSpec.upto capsTurnsSpec)

/-- 'rejoinderlaw12.CapsEach', WHERE WHAT IT READS IS OF BULK AT MOST 1048576: true; the input reads as it did. -/
def capsEachUptoRow : OpenClaim := { program := "ytgohpjjamciadaadoor", sum := "8410f3e5222e7c8d9e9359bc6504a46fc96e9a0dd89d26135f92e8e6f3fcbc77", func := "rejoinder/rejoinderlaw12.CapsEach", spec := "capsEach", inPlace := ["internal/bytealg.CountString", "internal/bytealg.IndexByteString", "internal/bytealg.IndexString", "internal/abi.NoEscape", "internal/bytealg.MakeNoZero"], unfollowed := true, recurses := true, named := ["unicode/utf8.first", "unicode/utf8.acceptRanges", "internal/bytealg.MaxLen"], apart := false, laid := [("unicode/utf8.acceptRanges", laid_unicode_utf8_acceptRanges), ("unicode/utf8.first", laid_unicode_utf8_first)], narrowed := true }
def CapsEachUptoSaid : Prop := capsEachUptoRow.holds Tryd.pinned (OpenSpec.upto capsEachSpec)

end Rows
end Go.Proofs.YtgohpjjamciadaaDoor
