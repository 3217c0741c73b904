/- A world in which the listed tables are laid. -/
import Derived.Test.YthnebhnlkjkcmaaDoorRows
import Derived.Lib.LaidTab
import Derived.KernelRfl
set_option linter.unusedVariables false
namespace Go.Proofs.YthnebhnlkjkcmaaDoor
mutual
/-- The cells of a plain datum. -/
def flatW : DataW Unit → List Value
  | .lit (.int k n) => [.int k n]
  | .lit (.bool b) => [.bool b]
  | .lit (.float k n) => [.float k n]
  | .agg parts => flatAllW parts
  | _ => []
def flatAllW : List (DataW Unit) → List Value
  | [] => []
  | d :: r => flatW d ++ flatAllW r
end
def putRow (w : World) (g : Nat) (cs : List Value) : World :=
  { w with heap := w.heap.modify g fun
      | .cells _ t frozen => .cells cs.toArray t frozen
      | o => o }
/-- math._sin -/
noncomputable def gnum0 : Nat := (Tryd.prog.globalNamed "math._sin").getD 0
/-- math._cos -/
noncomputable def gnum1 : Nat := (Tryd.prog.globalNamed "math._cos").getD 0
/-- math.mPi4 -/
noncomputable def gnum2 : Nat := (Tryd.prog.globalNamed "math.mPi4").getD 0
/-- unicode/utf8.acceptRanges -/
noncomputable def gnum3 : Nat := (Tryd.prog.globalNamed "unicode/utf8.acceptRanges").getD 0
/-- unicode/utf8.first -/
noncomputable def gnum4 : Nat := (Tryd.prog.globalNamed "unicode/utf8.first").getD 0
noncomputable def laidWorld (os : Os) : World := putRow (putRow (putRow (putRow (putRow (World.holding Tryd.prog os ⟨#[], #[], []⟩) gnum0 (flatW Rows.laid_math_sin)) gnum1 (flatW Rows.laid_math_cos)) gnum2 (flatW Rows.laid_math_mPi4)) gnum3 (flatW Rows.laid_unicode_utf8_acceptRanges)) gnum4 (flatW Rows.laid_unicode_utf8_first)
end Go.Proofs.YthnebhnlkjkcmaaDoor
