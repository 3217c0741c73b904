/-
  NARROWER THAN 'FOR EVERY INPUT', by the rows' own cells (each row's printed sentence says how): ReplyPlays: laid · ReplyBack: laid · ReplyBodies: laid · ReplyNext: laid · ReplyCodes: laid · ReplyMany: laid.
  DERIVED. THE GIVEN ROWS OF THIS SEAT. 6 by the template 'for every input the law returns true; each argument reads behind the call as it read before'; 0 by the template 'total and deterministic' (their statements: YtamemddgajmimaaDoorTotals.lean).
  GIVEN WITH THE SEED: the statements are not yours to turn. If you find one false, say at which input.
  Laid BY PROGRAM, IN A SANDBOX (cutbox-rows.mjs): the forced cells as the released guide's own fill.sh prints them over the translation 3e0eee5d9f33cf24… (all of the seat's roots in one cut). By AI agents, Wed Nov 11 2026. No macro, syntax, notation, axiom, sorry.
-/
import Derived.Test.YtamemddgajmimaaDoorChecked
import GoSem.PinnedTables
import GoSem.Claim
import GoSem.ClaimJoined
import GoSem.ClaimMapViews
import Derived.JoinedTies
import Derived.KernelRfl
namespace Go.Proofs.YtamemddgajmimaaDoor
/- THE CELL 'sum', in the pinned program and in every row, IS THE sha256 OF THE DUMP (.gsa) THAT YtamemddgajmimaaDoorProg.lean LOADS. Nothing in Lean hashes anything: it is a label: what it is worth is what the hold of that sum in a sandbox is worth. -/
noncomputable def Tryd.pinned : Pinned := { name := "ytamemddgajmimaadoor", sum := "3e0eee5d9f33cf2467f01136af7b823534923f39d1aa4f0ba236504b6c6c7c97", checked := Tryd.checked }
namespace Rows
def none {H : Type} : Left H := { results := [], args := [] }

/- WHAT THE LISTED PACKAGE-LEVEL VARIABLES READ AS WHEN THE CALL BEGINS. Each datum BY PROGRAM (the guide's laid-datum.mjs) off the statement by which the dump's own 'gosem.cut.vars' lays the variable. In a bare row this is a premise. The card (YtamemddgajmimaaDoorCards.lean) ties it to the program's text. -/
def laid_unicode_utf8_acceptRanges {H : Type} : DataW H := .agg [.agg [.lit (.int .u8 128), .lit (.int .u8 191)], .agg [.lit (.int .u8 160), .lit (.int .u8 191)], .agg [.lit (.int .u8 128), .lit (.int .u8 159)], .agg [.lit (.int .u8 144), .lit (.int .u8 191)], .agg [.lit (.int .u8 128), .lit (.int .u8 143)], .agg [.lit (.int .u8 0), .lit (.int .u8 0)], .agg [.lit (.int .u8 0), .lit (.int .u8 0)], .agg [.lit (.int .u8 0), .lit (.int .u8 0)], .agg [.lit (.int .u8 0), .lit (.int .u8 0)], .agg [.lit (.int .u8 0), .lit (.int .u8 0)], .agg [.lit (.int .u8 0), .lit (.int .u8 0)], .agg [.lit (.int .u8 0), .lit (.int .u8 0)], .agg [.lit (.int .u8 0), .lit (.int .u8 0)], .agg [.lit (.int .u8 0), .lit (.int .u8 0)], .agg [.lit (.int .u8 0), .lit (.int .u8 0)], .agg [.lit (.int .u8 0), .lit (.int .u8 0)]]
/-- One of Go's own tables, pinned by name: the form's constant. -/
def laid_unicode_utf8_first : DataW Unit := Go.Pinned.utf8First

/-- 'rejoinderlaw11.ReplyPlays': WHATEVER THE INPUT: true; the input reads as it did. -/
def replyPlaysSpec : ChangeSpec := { name := "replyPlays", fn := fun _ => fun
  | [d1, d2, d3] => { results := [.lit (.bool true)], args := [d1, d2, d3] }
  | _ => none }
def replyPlaysRow : OpenClaim := { program := "ytamemddgajmimaadoor", sum := "3e0eee5d9f33cf2467f01136af7b823534923f39d1aa4f0ba236504b6c6c7c97", func := "rejoinder/rejoinderlaw11.ReplyPlays", spec := "replyPlays", inPlace := ["internal/bytealg.IndexByteString", "internal/bytealg.IndexString"], unfollowed := true, recurses := true, named := ["unicode/utf8.first", "unicode/utf8.acceptRanges", "internal/bytealg.MaxLen"], apart := false, laid := [("unicode/utf8.acceptRanges", laid_unicode_utf8_acceptRanges), ("unicode/utf8.first", laid_unicode_utf8_first)] }
def ReplyPlaysSaid : Prop := replyPlaysRow.holds Tryd.pinned (OpenSpec.ofChange replyPlaysSpec)

/-- ITS FALSE NEIGHBOUR: 'it returns false'. Refute it at one input. -/
def replyPlaysWrong : ChangeSpec := { name := "replyPlays", fn := fun _ => fun
  | [d1, d2, d3] => { results := [.lit (.bool false)], args := [d1, d2, d3] }
  | _ => none }
def ReplyPlaysWrongFalsely : Prop := replyPlaysRow.holds Tryd.pinned (OpenSpec.ofChange replyPlaysWrong)

/-- 'rejoinderlaw11.ReplyBack': WHATEVER THE INPUT: true; the input reads as it did. -/
def replyBackSpec : ChangeSpec := { name := "replyBack", fn := fun _ => fun
  | [d1, d2, d3] => { results := [.lit (.bool true)], args := [d1, d2, d3] }
  | _ => none }
def replyBackRow : OpenClaim := { program := "ytamemddgajmimaadoor", sum := "3e0eee5d9f33cf2467f01136af7b823534923f39d1aa4f0ba236504b6c6c7c97", func := "rejoinder/rejoinderlaw11.ReplyBack", spec := "replyBack", inPlace := ["internal/bytealg.IndexByteString", "internal/bytealg.IndexString"], unfollowed := true, recurses := true, named := ["unicode/utf8.first", "unicode/utf8.acceptRanges", "internal/bytealg.MaxLen"], apart := false, laid := [("unicode/utf8.acceptRanges", laid_unicode_utf8_acceptRanges), ("unicode/utf8.first", laid_unicode_utf8_first)] }
def ReplyBackSaid : Prop := replyBackRow.holds Tryd.pinned (OpenSpec.ofChange replyBackSpec)

/-- ITS FALSE NEIGHBOUR: 'it returns false'. Refute it at one input. -/
def replyBackWrong : ChangeSpec := { name := "replyBack", fn := fun _ => fun
  | [d1, d2, d3] => { results := [.lit (.bool false)], args := [d1, d2, d3] }
  | _ => none }
def ReplyBackWrongFalsely : Prop := replyBackRow.holds Tryd.pinned (OpenSpec.ofChange replyBackWrong)

/-- 'rejoinderlaw11.ReplyBodies': WHATEVER THE INPUT: true; the input reads as it did. -/
def replyBodiesSpec : ChangeSpec := { name := "replyBodies", fn := fun _ => fun
  | [d] => { results := [.lit (.bool true)], args := [d] }
  | _ => none }
def replyBodiesRow : OpenClaim := { program := "ytamemddgajmimaadoor", sum := "3e0eee5d9f33cf2467f01136af7b823534923f39d1aa4f0ba236504b6c6c7c97", func := "rejoinder/rejoinderlaw11.ReplyBodies", spec := "replyBodies", inPlace := ["internal/bytealg.IndexByteString", "internal/bytealg.IndexString"], unfollowed := true, recurses := true, named := ["unicode/utf8.first", "unicode/utf8.acceptRanges", "internal/bytealg.MaxLen"], apart := false, laid := [("unicode/utf8.acceptRanges", laid_unicode_utf8_acceptRanges), ("unicode/utf8.first", laid_unicode_utf8_first)] }
def ReplyBodiesSaid : Prop := replyBodiesRow.holds Tryd.pinned (OpenSpec.ofChange replyBodiesSpec)

/-- ITS FALSE NEIGHBOUR: 'it returns false'. Refute it at one input. -/
def replyBodiesWrong : ChangeSpec := { name := "replyBodies", fn := fun _ => fun
  | [d] => { results := [.lit (.bool false)], args := [d] }
  | _ => none }
def ReplyBodiesWrongFalsely : Prop := replyBodiesRow.holds Tryd.pinned (OpenSpec.ofChange replyBodiesWrong)

/-- 'rejoinderlaw11.ReplyNext': WHATEVER THE INPUT: true; the input reads as it did. -/
def replyNextSpec : ChangeSpec := { name := "replyNext", fn := fun _ => fun
  | [d1, d2, d3] => { results := [.lit (.bool true)], args := [d1, d2, d3] }
  | _ => none }
def replyNextRow : OpenClaim := { program := "ytamemddgajmimaadoor", sum := "3e0eee5d9f33cf2467f01136af7b823534923f39d1aa4f0ba236504b6c6c7c97", func := "rejoinder/rejoinderlaw11.ReplyNext", spec := "replyNext", inPlace := ["internal/bytealg.IndexByteString", "internal/bytealg.IndexString"], unfollowed := true, recurses := true, named := ["unicode/utf8.first", "unicode/utf8.acceptRanges", "internal/bytealg.MaxLen"], apart := false, laid := [("unicode/utf8.acceptRanges", laid_unicode_utf8_acceptRanges), ("unicode/utf8.first", laid_unicode_utf8_first)] }
def ReplyNextSaid : Prop := replyNextRow.holds Tryd.pinned (OpenSpec.ofChange replyNextSpec)

/-- ITS FALSE NEIGHBOUR: 'it returns false'. Refute it at one input. -/
def replyNextWrong : ChangeSpec := { name := "replyNext", fn := fun _ => fun
  | [d1, d2, d3] => { results := [.lit (.bool false)], args := [d1, d2, d3] }
  | _ => none }
def ReplyNextWrongFalsely : Prop := replyNextRow.holds Tryd.pinned (OpenSpec.ofChange replyNextWrong)

/-- 'rejoinderlaw11.ReplyCodes': WHATEVER THE INPUT: true; the input reads as it did. -/
def replyCodesSpec : ChangeSpec := { name := "replyCodes", fn := fun _ => fun
  | [d1, d2, d3] => { results := [.lit (.bool true)], args := [d1, d2, d3] }
  | _ => none }
def replyCodesRow : OpenClaim := { program := "ytamemddgajmimaadoor", sum := "3e0eee5d9f33cf2467f01136af7b823534923f39d1aa4f0ba236504b6c6c7c97", func := "rejoinder/rejoinderlaw11.ReplyCodes", spec := "replyCodes", inPlace := ["internal/bytealg.IndexByteString", "internal/bytealg.IndexString"], unfollowed := true, recurses := true, named := ["unicode/utf8.first", "unicode/utf8.acceptRanges", "internal/bytealg.MaxLen"], apart := false, laid := [("unicode/utf8.acceptRanges", laid_unicode_utf8_acceptRanges), ("unicode/utf8.first", laid_unicode_utf8_first)] }
def ReplyCodesSaid : Prop := replyCodesRow.holds Tryd.pinned (OpenSpec.ofChange replyCodesSpec)

/-- ITS FALSE NEIGHBOUR: 'it returns false'. Refute it at one input. -/
def replyCodesWrong : ChangeSpec := { name := "replyCodes", fn := fun _ => fun
  | [d1, d2, d3] => { results := [.lit (.bool false)], args := [d1, d2, d3] }
  | _ => none }
def ReplyCodesWrongFalsely : Prop := replyCodesRow.holds Tryd.pinned (OpenSpec.ofChange replyCodesWrong)

/-- 'rejoinderlaw11.ReplyMany': WHATEVER THE INPUT: true; the input reads as it did. -/
def replyManySpec : ChangeSpec := { name := "replyMany", fn := fun _ => fun
  | [d1, d2] => { results := [.lit (.bool true)], args := [d1, d2] }
  | _ => none }
def replyManyRow : OpenClaim := { program := "ytamemddgajmimaadoor", sum := "3e0eee5d9f33cf2467f01136af7b823534923f39d1aa4f0ba236504b6c6c7c97", func := "rejoinder/rejoinderlaw11.ReplyMany", spec := "replyMany", inPlace := ["internal/bytealg.IndexByteString", "internal/bytealg.IndexString"], unfollowed := true, recurses := true, named := ["unicode/utf8.first", "unicode/utf8.acceptRanges", "internal/bytealg.MaxLen"], apart := false, laid := [("unicode/utf8.acceptRanges", laid_unicode_utf8_acceptRanges), ("unicode/utf8.first", laid_unicode_utf8_first)] }
def ReplyManySaid : Prop := replyManyRow.holds Tryd.pinned (OpenSpec.ofChange replyManySpec)

/-- ITS FALSE NEIGHBOUR: 'it returns false'. Refute it at one input. -/
def replyManyWrong : ChangeSpec := { name := "replyMany", fn := fun _ => fun
  | [d1, d2] => { results := [.lit (.bool false)], args := [d1, d2] }
  | _ => none }
def ReplyManyWrongFalsely : Prop := replyManyRow.holds Tryd.pinned (OpenSpec.ofChange replyManyWrong)

/- THE SECOND FORM. 'bulk': how many values and letters a reading holds, each counted each time it is reached (what is shared counts as often as it is met; a slice's spare places count too). A statement '..UptoSaid' is the law's where the arguments, and the package variables that the reading takes, are together of bulk at most 1048576: NARROWER than '..Said'. Prove '..Said' where nothing that the law and all that it calls make is longer than what came in: it says more and counts as full. Else prove '..UptoSaid'. A law counts once. -/
mutual
def uptoBulk {H : Type} : DataW H → Nat
  | .lit (.string bytes) => bytes.length + 1
  | .lit _ => 1
  | .nil => 1
  | .ptr d => uptoBulk d + 1
  | .slice elems spare => uptoBulkAll elems + uptoBulkAll spare + 1
  | .agg parts => uptoBulkAll parts + 1
  | .iface _ d => uptoBulk d + 1
  | .map entries => uptoBulkEntries entries + 1
  | .held _ => 1
def uptoBulkAll {H : Type} : List (DataW H) → Nat
  | [] => 0
  | d :: r => uptoBulk d + uptoBulkAll r
def uptoBulkEntries {H : Type} : List (Lit × DataW H) → Nat
  | [] => 0
  | x :: r => uptoBulkEntry x + uptoBulkEntries r
def uptoBulkEntry {H : Type} : Lit × DataW H → Nat
  | (.string bytes, d) => bytes.length + uptoBulk d + 1
  | (_, d) => uptoBulk d + 1
 end
def uptoSmall : (H : Type) → List (DataW H) → Bool := fun _ ds => decide (uptoBulkAll ds ≤ 1048576)
def OpenSpec.upto (s : _root_.Go.ChangeSpec) : _root_.Go.OpenSpec := { _root_.Go.OpenSpec.ofChange s with cond := some uptoSmall }

/-- 'rejoinderlaw11.ReplyPlays', WHERE WHAT IT READS IS OF BULK AT MOST 1048576: true; the input reads as it did. -/
def replyPlaysUptoRow : OpenClaim := { program := "ytamemddgajmimaadoor", sum := "3e0eee5d9f33cf2467f01136af7b823534923f39d1aa4f0ba236504b6c6c7c97", func := "rejoinder/rejoinderlaw11.ReplyPlays", spec := "replyPlays", inPlace := ["internal/bytealg.IndexByteString", "internal/bytealg.IndexString"], unfollowed := true, recurses := true, named := ["unicode/utf8.first", "unicode/utf8.acceptRanges", "internal/bytealg.MaxLen"], apart := false, laid := [("unicode/utf8.acceptRanges", laid_unicode_utf8_acceptRanges), ("unicode/utf8.first", laid_unicode_utf8_first)], narrowed := true }
def ReplyPlaysUptoSaid : Prop := replyPlaysUptoRow.holds Tryd.pinned (OpenSpec.upto replyPlaysSpec)

/-- 'rejoinderlaw11.ReplyBack', WHERE WHAT IT READS IS OF BULK AT MOST 1048576: true; the input reads as it did. -/
def replyBackUptoRow : OpenClaim := { program := "ytamemddgajmimaadoor", sum := "3e0eee5d9f33cf2467f01136af7b823534923f39d1aa4f0ba236504b6c6c7c97", func := "rejoinder/rejoinderlaw11.ReplyBack", spec := "replyBack", inPlace := ["internal/bytealg.IndexByteString", "internal/bytealg.IndexString"], unfollowed := true, recurses := true, named := ["unicode/utf8.first", "unicode/utf8.acceptRanges", "internal/bytealg.MaxLen"], apart := false, laid := [("unicode/utf8.acceptRanges", laid_unicode_utf8_acceptRanges), ("unicode/utf8.first", laid_unicode_utf8_first)], narrowed := true }
def ReplyBackUptoSaid : Prop := replyBackUptoRow.holds Tryd.pinned (OpenSpec.upto replyBackSpec)

/-- 'rejoinderlaw11.ReplyBodies', WHERE WHAT IT READS IS OF BULK AT MOST 1048576: true; the input reads as it did. -/
def replyBodiesUptoRow : OpenClaim := { program := "ytamemddgajmimaadoor", sum := "3e0eee5d9f33cf2467f01136af7b823534923f39d1aa4f0ba236504b6c6c7c97", func := "rejoinder/rejoinderlaw11.ReplyBodies", spec := "replyBodies", inPlace := ["internal/bytealg.IndexByteString", "internal/bytealg.IndexString"], unfollowed := true, recurses := true, named := ["unicode/utf8.first", "unicode/utf8.acceptRanges", "internal/bytealg.MaxLen"], apart := false, laid := [("unicode/utf8.acceptRanges", laid_unicode_utf8_acceptRanges), ("unicode/utf8.first", laid_unicode_utf8_first)], narrowed := true }
def ReplyBodiesUptoSaid : Prop := replyBodiesUptoRow.holds Tryd.pinned (OpenSpec.upto replyBodiesSpec)

/-- 'rejoinderlaw11.ReplyNext', WHERE WHAT IT READS IS OF BULK AT MOST 1048576: true; the input reads as it did. -/
def replyNextUptoRow : OpenClaim := { program := "ytamemddgajmimaadoor", sum := "3e0eee5d9f33cf2467f01136af7b823534923f39d1aa4f0ba236504b6c6c7c97", func := "rejoinder/rejoinderlaw11.ReplyNext", spec := "replyNext", inPlace := ["internal/bytealg.IndexByteString", "internal/bytealg.IndexString"], unfollowed := true, recurses := true, named := ["unicode/utf8.first", "unicode/utf8.acceptRanges", "internal/bytealg.MaxLen"], apart := false, laid := [("unicode/utf8.acceptRanges", laid_unicode_utf8_acceptRanges), ("unicode/utf8.first", laid_unicode_utf8_first)], narrowed := true }
def ReplyNextUptoSaid : Prop := replyNextUptoRow.holds Tryd.pinned (OpenSpec.upto replyNextSpec)

/-- 'rejoinderlaw11.ReplyCodes', WHERE WHAT IT READS IS OF BULK AT MOST 1048576: true; the input reads as it did. -/
def replyCodesUptoRow : OpenClaim := { program := "ytamemddgajmimaadoor", sum := "3e0eee5d9f33cf2467f01136af7b823534923f39d1aa4f0ba236504b6c6c7c97", func := "rejoinder/rejoinderlaw11.ReplyCodes", spec := "replyCodes", inPlace := ["internal/bytealg.IndexByteString", "internal/bytealg.IndexString"], unfollowed := true, recurses := true, named := ["unicode/utf8.first", "unicode/utf8.acceptRanges", "internal/bytealg.MaxLen"], apart := false, laid := [("unicode/utf8.acceptRanges", laid_unicode_utf8_acceptRanges), ("unicode/utf8.first", laid_unicode_utf8_first)], narrowed := true }
def ReplyCodesUptoSaid : Prop := replyCodesUptoRow.holds Tryd.pinned (OpenSpec.upto replyCodesSpec)

/-- 'rejoinderlaw11.ReplyMany', WHERE WHAT IT READS IS OF BULK AT MOST 1048576: true; the input reads as it did. -/
def replyManyUptoRow : OpenClaim := { program := "ytamemddgajmimaadoor", sum := "3e0eee5d9f33cf2467f01136af7b823534923f39d1aa4f0ba236504b6c6c7c97", func := "rejoinder/rejoinderlaw11.ReplyMany", spec := "replyMany", inPlace := ["internal/bytealg.IndexByteString", "internal/bytealg.IndexString"], unfollowed := true, recurses := true, named := ["unicode/utf8.first", "unicode/utf8.acceptRanges", "internal/bytealg.MaxLen"], apart := false, laid := [("unicode/utf8.acceptRanges", laid_unicode_utf8_acceptRanges), ("unicode/utf8.first", laid_unicode_utf8_first)], narrowed := true }
def ReplyManyUptoSaid : Prop := replyManyUptoRow.holds Tryd.pinned (OpenSpec.upto replyManySpec)

end Rows
end Go.Proofs.YtamemddgajmimaaDoor
