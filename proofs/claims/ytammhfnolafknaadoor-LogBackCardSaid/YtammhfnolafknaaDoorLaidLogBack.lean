/- A world in which the listed tables are laid. -/
import Derived.Test.YtammhfnolafknaaDoorRows
import Derived.Lib.LaidTab
import Derived.KernelRfl
set_option linter.unusedVariables false
namespace Go.Proofs.YtammhfnolafknaaDoor
mutual
/-- The cells of a plain datum. -/
def flatW : DataW Unit → List Value
  | .lit (.int k n) => [.int k n]
  | .lit (.bool b) => [.bool b]
  | .lit (.float k n) => [.float k n]
  | .agg parts => flatAllW parts
  | _ => []
def flatAllW : List (DataW Unit) → List Value
  | [] => []
  | d :: r => flatW d ++ flatAllW r
end
def putRow (w : World) (g : Nat) (cs : List Value) : World :=
  { w with heap := w.heap.modify g fun
      | .cells _ t frozen => .cells cs.toArray t frozen
      | o => o }
def putErr (w : World) (g : Nat) (tp te : TypeId) (s : ByteArray) : World :=
  putRow (w.alloc (.cells #[.string s] te)) g [.iface tp (.pointer (some ⟨w.heap.size, 0, none⟩))]
/-- math/bits.deBruijn32tab -/
noncomputable def gnum0 : Nat := (Tryd.prog.globalNamed "math/bits.deBruijn32tab").getD 0
/-- math/bits.deBruijn64tab -/
noncomputable def gnum1 : Nat := (Tryd.prog.globalNamed "math/bits.deBruijn64tab").getD 0
/-- internal/strconv.uint64pow10 -/
noncomputable def gnum2 : Nat := (Tryd.prog.globalNamed "internal/strconv.uint64pow10").getD 0
/-- unicode/utf8.acceptRanges -/
noncomputable def gnum3 : Nat := (Tryd.prog.globalNamed "unicode/utf8.acceptRanges").getD 0
/-- strconv.ErrRange -/
noncomputable def gnum4 : Nat := (Tryd.prog.globalNamed "strconv.ErrRange").getD 0
/-- strconv.ErrSyntax -/
noncomputable def gnum5 : Nat := (Tryd.prog.globalNamed "strconv.ErrSyntax").getD 0
/-- unicode/utf8.first -/
noncomputable def gnum6 : Nat := (Tryd.prog.globalNamed "unicode/utf8.first").getD 0
noncomputable def laidWorld (os : Os) : World := putRow (putErr (putErr (putRow (putRow (putRow (putRow (World.holding Tryd.prog os ⟨#[], #[], []⟩) gnum0 (flatW Rows.laid_math_bits_deBruijn32tab)) gnum1 (flatW Rows.laid_math_bits_deBruijn64tab)) gnum2 (flatW Rows.laid_internal_strconv_uint64pow10)) gnum3 (flatW Rows.laid_unicode_utf8_acceptRanges)) gnum4 114 116 ⟨#[118, 97, 108, 117, 101, 32, 111, 117, 116, 32, 111, 102, 32, 114, 97, 110, 103, 101]⟩) gnum5 114 116 ⟨#[105, 110, 118, 97, 108, 105, 100, 32, 115, 121, 110, 116, 97, 120]⟩) gnum6 (flatW Rows.laid_unicode_utf8_first)
end Go.Proofs.YtammhfnolafknaaDoor
