/-
  NARROWER THAN 'FOR EVERY INPUT', by the rows' own cells (each row's printed sentence says how): AuthStamps: laid · AuthFirst: laid · AuthBack: laid · AuthAll: laid.
  DERIVED. THE GIVEN ROWS OF THIS SEAT. 4 by the template 'for every input the law returns true; each argument reads behind the call as it read before'; 0 by the template 'total and deterministic' (their statements: YthnebhnlkjkcmaaDoorTotals.lean).
  GIVEN WITH THE SEED: the statements are not yours to turn. If you find one false, say at which input.
  Laid BY PROGRAM, IN A SANDBOX (cutbox-rows.mjs): the forced cells as the released guide's own fill.sh prints them over the translation 4c15bdb329b86baa… (all of the seat's roots in one cut). By AI agents, Wed Nov 11 2026. No macro, syntax, notation, axiom, sorry.
-/
import Derived.Test.YthnebhnlkjkcmaaDoorChecked
import GoSem.PinnedTables
import GoSem.Claim
import GoSem.ClaimJoined
import GoSem.ClaimMapViews
import Derived.JoinedTies
import Derived.KernelRfl
namespace Go.Proofs.YthnebhnlkjkcmaaDoor
/- THE CELL 'sum', in the pinned program and in every row, IS THE sha256 OF THE DUMP (.gsa) THAT YthnebhnlkjkcmaaDoorProg.lean LOADS. Nothing in Lean hashes anything: it is a label: what it is worth is what the hold of that sum in a sandbox is worth. -/
noncomputable def Tryd.pinned : Pinned := { name := "ythnebhnlkjkcmaadoor", sum := "4c15bdb329b86baa28691ab093199a0f350b86c1fe65702b4c9cdb63983c5336", checked := Tryd.checked }
namespace Rows
def none {H : Type} : Left H := { results := [], args := [] }

/- WHAT THE LISTED PACKAGE-LEVEL VARIABLES READ AS WHEN THE CALL BEGINS. Each datum BY PROGRAM (the guide's laid-datum.mjs) off the statement by which the dump's own 'gosem.cut.vars' lays the variable. In a bare row this is a premise. The card (YthnebhnlkjkcmaaDoorCards.lean) ties it to the program's text. -/
def laid_math_sin {H : Type} : DataW H := .agg [.lit (.float .f64 4460209587652500685), .lit (.float .f64 13716528389658582877), .lit (.float .f64 4523617212962785441), .lit (.float .f64 13774824197404483331), .lit (.float .f64 4575957461383575504), .lit (.float .f64 13818544856648471880)]
def laid_math_cos {H : Type} : DataW H := .agg [.lit (.float .f64 13666448263388469915), .lit (.float .f64 4477121864728985349), .lit (.float .f64 13732177093698800582), .lit (.float .f64 4537941361668146421), .lit (.float .f64 13787419979223748497), .lit (.float .f64 4586165620538955083)]
def laid_math_mPi4 {H : Type} : DataW H := .agg [.lit (.int .u64 1), .lit (.int .u64 5040379952546458195), .lit (.int .u64 17892431488136887169), .lit (.int .u64 13169980181085364355), .lit (.int .u64 18204331823439776451), .lit (.int .u64 7946843935494350272), .lit (.int .u64 905889640498799673), .lit (.int .u64 18175356263134875261), .lit (.int .u64 15061281708168349961), .lit (.int .u64 15220161563773041794), .lit (.int .u64 8296664548579374057), .lit (.int .u64 4109744767560208502), .lit (.int .u64 4607516669194743839), .lit (.int .u64 16023283104648321598), .lit (.int .u64 15739233654134936430), .lit (.int .u64 11424645774684705882), .lit (.int .u64 16883842788696515318), .lit (.int .u64 8795094592981902804), .lit (.int .u64 15561835991111744016), .lit (.int .u64 12395701187267450711)]
def laid_unicode_utf8_acceptRanges {H : Type} : DataW H := .agg [.agg [.lit (.int .u8 128), .lit (.int .u8 191)], .agg [.lit (.int .u8 160), .lit (.int .u8 191)], .agg [.lit (.int .u8 128), .lit (.int .u8 159)], .agg [.lit (.int .u8 144), .lit (.int .u8 191)], .agg [.lit (.int .u8 128), .lit (.int .u8 143)], .agg [.lit (.int .u8 0), .lit (.int .u8 0)], .agg [.lit (.int .u8 0), .lit (.int .u8 0)], .agg [.lit (.int .u8 0), .lit (.int .u8 0)], .agg [.lit (.int .u8 0), .lit (.int .u8 0)], .agg [.lit (.int .u8 0), .lit (.int .u8 0)], .agg [.lit (.int .u8 0), .lit (.int .u8 0)], .agg [.lit (.int .u8 0), .lit (.int .u8 0)], .agg [.lit (.int .u8 0), .lit (.int .u8 0)], .agg [.lit (.int .u8 0), .lit (.int .u8 0)], .agg [.lit (.int .u8 0), .lit (.int .u8 0)], .agg [.lit (.int .u8 0), .lit (.int .u8 0)]]
/-- One of Go's own tables, pinned by name: the form's constant. -/
def laid_unicode_utf8_first : DataW Unit := Go.Pinned.utf8First

/-- 'rejoinderlaw05.AuthStamps': WHATEVER THE INPUT: true; the input reads as it did. -/
def authStampsSpec : ChangeSpec := { name := "authStamps", fn := fun _ => fun
  | [d1, d2] => { results := [.lit (.bool true)], args := [d1, d2] }
  | _ => none }
def authStampsRow : OpenClaim := { program := "ythnebhnlkjkcmaadoor", sum := "4c15bdb329b86baa28691ab093199a0f350b86c1fe65702b4c9cdb63983c5336", func := "rejoinder/rejoinderlaw05.AuthStamps", spec := "authStamps", inPlace := ["math.Float64bits", "math.Float64frombits", "math/bits.Add64", "math.archFloor", "math.archTrunc", "internal/abi.NoEscape", "internal/bytealg.IndexByteString", "internal/bytealg.IndexString"], named := ["math._cos", "math._sin", "math.mPi4", "internal/bytealg.MaxLen"], apart := false, laid := [("math._sin", laid_math_sin), ("math._cos", laid_math_cos), ("math.mPi4", laid_math_mPi4)] }
def AuthStampsSaid : Prop := authStampsRow.holds Tryd.pinned (OpenSpec.ofChange authStampsSpec)

/-- ITS FALSE NEIGHBOUR: 'it returns false'. Refute it at one input. -/
def authStampsWrong : ChangeSpec := { name := "authStamps", fn := fun _ => fun
  | [d1, d2] => { results := [.lit (.bool false)], args := [d1, d2] }
  | _ => none }
def AuthStampsWrongFalsely : Prop := authStampsRow.holds Tryd.pinned (OpenSpec.ofChange authStampsWrong)

/-- 'rejoinderlaw05.AuthFirst': WHATEVER THE INPUT: true; the input reads as it did. -/
def authFirstSpec : ChangeSpec := { name := "authFirst", fn := fun _ => fun
  | [d1, d2] => { results := [.lit (.bool true)], args := [d1, d2] }
  | _ => none }
def authFirstRow : OpenClaim := { program := "ythnebhnlkjkcmaadoor", sum := "4c15bdb329b86baa28691ab093199a0f350b86c1fe65702b4c9cdb63983c5336", func := "rejoinder/rejoinderlaw05.AuthFirst", spec := "authFirst", inPlace := ["math.Float64bits", "math.Float64frombits", "math/bits.Add64", "math.archFloor", "math.archTrunc", "internal/abi.NoEscape", "internal/bytealg.IndexByteString", "internal/bytealg.IndexString"], named := ["math._cos", "math._sin", "math.mPi4", "internal/bytealg.MaxLen"], apart := false, laid := [("math._sin", laid_math_sin), ("math._cos", laid_math_cos), ("math.mPi4", laid_math_mPi4)] }
def AuthFirstSaid : Prop := authFirstRow.holds Tryd.pinned (OpenSpec.ofChange authFirstSpec)

/-- ITS FALSE NEIGHBOUR: 'it returns false'. Refute it at one input. -/
def authFirstWrong : ChangeSpec := { name := "authFirst", fn := fun _ => fun
  | [d1, d2] => { results := [.lit (.bool false)], args := [d1, d2] }
  | _ => none }
def AuthFirstWrongFalsely : Prop := authFirstRow.holds Tryd.pinned (OpenSpec.ofChange authFirstWrong)

/-- 'rejoinderlaw05.AuthBack': WHATEVER THE INPUT: true; the input reads as it did. -/
def authBackSpec : ChangeSpec := { name := "authBack", fn := fun _ => fun
  | [d1, d2, d3] => { results := [.lit (.bool true)], args := [d1, d2, d3] }
  | _ => none }
def authBackRow : OpenClaim := { program := "ythnebhnlkjkcmaadoor", sum := "4c15bdb329b86baa28691ab093199a0f350b86c1fe65702b4c9cdb63983c5336", func := "rejoinder/rejoinderlaw05.AuthBack", spec := "authBack", inPlace := ["math.Float64bits", "math.Float64frombits", "math/bits.Add64", "math.archFloor", "math.archTrunc", "internal/abi.NoEscape", "internal/bytealg.MakeNoZero", "internal/bytealg.IndexByteString", "internal/bytealg.IndexString"], unfollowed := true, recurses := true, named := ["math._cos", "math._sin", "math.mPi4", "unicode/utf8.first", "unicode/utf8.acceptRanges", "internal/bytealg.MaxLen"], apart := false, laid := [("unicode/utf8.acceptRanges", laid_unicode_utf8_acceptRanges), ("math._sin", laid_math_sin), ("math._cos", laid_math_cos), ("math.mPi4", laid_math_mPi4), ("unicode/utf8.first", laid_unicode_utf8_first)] }
def AuthBackSaid : Prop := authBackRow.holds Tryd.pinned (OpenSpec.ofChange authBackSpec)

/-- ITS FALSE NEIGHBOUR: 'it returns false'. Refute it at one input. -/
def authBackWrong : ChangeSpec := { name := "authBack", fn := fun _ => fun
  | [d1, d2, d3] => { results := [.lit (.bool false)], args := [d1, d2, d3] }
  | _ => none }
def AuthBackWrongFalsely : Prop := authBackRow.holds Tryd.pinned (OpenSpec.ofChange authBackWrong)

/-- 'rejoinderlaw05.AuthAll': WHATEVER THE INPUT: true; the input reads as it did. -/
def authAllSpec : ChangeSpec := { name := "authAll", fn := fun _ => fun
  | [d1, d2, d3] => { results := [.lit (.bool true)], args := [d1, d2, d3] }
  | _ => none }
def authAllRow : OpenClaim := { program := "ythnebhnlkjkcmaadoor", sum := "4c15bdb329b86baa28691ab093199a0f350b86c1fe65702b4c9cdb63983c5336", func := "rejoinder/rejoinderlaw05.AuthAll", spec := "authAll", inPlace := ["math.Float64bits", "math.Float64frombits", "math/bits.Add64", "math.archFloor", "math.archTrunc", "internal/abi.NoEscape", "internal/bytealg.IndexByteString", "internal/bytealg.IndexString", "internal/bytealg.MakeNoZero"], unfollowed := true, recurses := true, named := ["math._cos", "math._sin", "math.mPi4", "unicode/utf8.first", "unicode/utf8.acceptRanges", "internal/bytealg.MaxLen"], apart := false, laid := [("unicode/utf8.acceptRanges", laid_unicode_utf8_acceptRanges), ("math._sin", laid_math_sin), ("math._cos", laid_math_cos), ("math.mPi4", laid_math_mPi4), ("unicode/utf8.first", laid_unicode_utf8_first)] }
def AuthAllSaid : Prop := authAllRow.holds Tryd.pinned (OpenSpec.ofChange authAllSpec)

/-- ITS FALSE NEIGHBOUR: 'it returns false'. Refute it at one input. -/
def authAllWrong : ChangeSpec := { name := "authAll", fn := fun _ => fun
  | [d1, d2, d3] => { results := [.lit (.bool false)], args := [d1, d2, d3] }
  | _ => none }
def AuthAllWrongFalsely : Prop := authAllRow.holds Tryd.pinned (OpenSpec.ofChange authAllWrong)

/- THE SECOND FORM. 'bulk': how many values and letters a reading holds, each counted each time it is reached (what is shared counts as often as it is met; a slice's spare places count too). A statement '..UptoSaid' is the law's where the arguments, and the package variables that the reading takes, are together of bulk at most 1048576: NARROWER than '..Said'. Prove '..Said' where nothing that the law and all that it calls make is longer than what came in: it says more and counts as full. Else prove '..UptoSaid'. A law counts once. -/
mutual
def uptoBulk {H : Type} : DataW H → Nat
  | .lit (.string bytes) => bytes.length + 1
  | .lit _ => 1
  | .nil => 1
  | .ptr d => uptoBulk d + 1
  | .slice elems spare => uptoBulkAll elems + uptoBulkAll spare + 1
  | .agg parts => uptoBulkAll parts + 1
  | .iface _ d => uptoBulk d + 1
  | .map entries => uptoBulkEntries entries + 1
  | .held _ => 1
def uptoBulkAll {H : Type} : List (DataW H) → Nat
  | [] => 0
  | d :: r => uptoBulk d + uptoBulkAll r
def uptoBulkEntries {H : Type} : List (Lit × DataW H) → Nat
  | [] => 0
  | x :: r => uptoBulkEntry x + uptoBulkEntries r
def uptoBulkEntry {H : Type} : Lit × DataW H → Nat
  | (.string bytes, d) => bytes.length + uptoBulk d + 1
  | (_, d) => uptoBulk d + 1
 end
def uptoSmall : (H : Type) → List (DataW H) → Bool := fun _ ds => decide (uptoBulkAll ds ≤ 1048576)
def OpenSpec.upto (s : _root_.Go.ChangeSpec) : _root_.Go.OpenSpec := { _root_.Go.OpenSpec.ofChange s with cond := some uptoSmall }

/-- 'rejoinderlaw05.AuthStamps', WHERE WHAT IT READS IS OF BULK AT MOST 1048576: true; the input reads as it did. -/
def authStampsUptoRow : OpenClaim := { program := "ythnebhnlkjkcmaadoor", sum := "4c15bdb329b86baa28691ab093199a0f350b86c1fe65702b4c9cdb63983c5336", func := "rejoinder/rejoinderlaw05.AuthStamps", spec := "authStamps", inPlace := ["math.Float64bits", "math.Float64frombits", "math/bits.Add64", "math.archFloor", "math.archTrunc", "internal/abi.NoEscape", "internal/bytealg.IndexByteString", "internal/bytealg.IndexString"], named := ["math._cos", "math._sin", "math.mPi4", "internal/bytealg.MaxLen"], apart := false, laid := [("math._sin", laid_math_sin), ("math._cos", laid_math_cos), ("math.mPi4", laid_math_mPi4)], narrowed := true }
def AuthStampsUptoSaid : Prop := authStampsUptoRow.holds Tryd.pinned (OpenSpec.upto authStampsSpec)

/-- 'rejoinderlaw05.AuthFirst', WHERE WHAT IT READS IS OF BULK AT MOST 1048576: true; the input reads as it did. -/
def authFirstUptoRow : OpenClaim := { program := "ythnebhnlkjkcmaadoor", sum := "4c15bdb329b86baa28691ab093199a0f350b86c1fe65702b4c9cdb63983c5336", func := "rejoinder/rejoinderlaw05.AuthFirst", spec := "authFirst", inPlace := ["math.Float64bits", "math.Float64frombits", "math/bits.Add64", "math.archFloor", "math.archTrunc", "internal/abi.NoEscape", "internal/bytealg.IndexByteString", "internal/bytealg.IndexString"], named := ["math._cos", "math._sin", "math.mPi4", "internal/bytealg.MaxLen"], apart := false, laid := [("math._sin", laid_math_sin), ("math._cos", laid_math_cos), ("math.mPi4", laid_math_mPi4)], narrowed := true }
def AuthFirstUptoSaid : Prop := authFirstUptoRow.holds Tryd.pinned (OpenSpec.upto authFirstSpec)

/-- 'rejoinderlaw05.AuthBack', WHERE WHAT IT READS IS OF BULK AT MOST 1048576: true; the input reads as it did. -/
def authBackUptoRow : OpenClaim := { program := "ythnebhnlkjkcmaadoor", sum := "4c15bdb329b86baa28691ab093199a0f350b86c1fe65702b4c9cdb63983c5336", func := "rejoinder/rejoinderlaw05.AuthBack", spec := "authBack", inPlace := ["math.Float64bits", "math.Float64frombits", "math/bits.Add64", "math.archFloor", "math.archTrunc", "internal/abi.NoEscape", "internal/bytealg.MakeNoZero", "internal/bytealg.IndexByteString", "internal/bytealg.IndexString"], unfollowed := true, recurses := true, named := ["math._cos", "math._sin", "math.mPi4", "unicode/utf8.first", "unicode/utf8.acceptRanges", "internal/bytealg.MaxLen"], apart := false, laid := [("unicode/utf8.acceptRanges", laid_unicode_utf8_acceptRanges), ("math._sin", laid_math_sin), ("math._cos", laid_math_cos), ("math.mPi4", laid_math_mPi4), ("unicode/utf8.first", laid_unicode_utf8_first)], narrowed := true }
def AuthBackUptoSaid : Prop := authBackUptoRow.holds Tryd.pinned (OpenSpec.upto authBackSpec)

/-- 'rejoinderlaw05.AuthAll', WHERE WHAT IT READS IS OF BULK AT MOST 1048576: true; the input reads as it did. -/
def authAllUptoRow : OpenClaim := { program := "ythnebhnlkjkcmaadoor", sum := "4c15bdb329b86baa28691ab093199a0f350b86c1fe65702b4c9cdb63983c5336", func := "rejoinder/rejoinderlaw05.AuthAll", spec := "authAll", inPlace := ["math.Float64bits", "math.Float64frombits", "math/bits.Add64", "math.archFloor", "math.archTrunc", "internal/abi.NoEscape", "internal/bytealg.IndexByteString", "internal/bytealg.IndexString", "internal/bytealg.MakeNoZero"], unfollowed := true, recurses := true, named := ["math._cos", "math._sin", "math.mPi4", "unicode/utf8.first", "unicode/utf8.acceptRanges", "internal/bytealg.MaxLen"], apart := false, laid := [("unicode/utf8.acceptRanges", laid_unicode_utf8_acceptRanges), ("math._sin", laid_math_sin), ("math._cos", laid_math_cos), ("math.mPi4", laid_math_mPi4), ("unicode/utf8.first", laid_unicode_utf8_first)], narrowed := true }
def AuthAllUptoSaid : Prop := authAllUptoRow.holds Tryd.pinned (OpenSpec.upto authAllSpec)

end Rows
end Go.Proofs.YthnebhnlkjkcmaaDoor
