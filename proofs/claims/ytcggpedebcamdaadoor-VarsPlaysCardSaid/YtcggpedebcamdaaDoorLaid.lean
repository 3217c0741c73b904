/- A world in which the listed tables are laid. -/
import Derived.Test.YtcggpedebcamdaaDoorRows
import Derived.Lib.LaidTab
import Derived.KernelRfl
set_option linter.unusedVariables false
namespace Go.Proofs.YtcggpedebcamdaaDoor
mutual
/-- The cells of a plain datum. -/
def flatW : DataW Unit → List Value
  | .lit (.int k n) => [.int k n]
  | .lit (.bool b) => [.bool b]
  | .agg parts => flatAllW parts
  | _ => []
def flatAllW : List (DataW Unit) → List Value
  | [] => []
  | d :: r => flatW d ++ flatAllW r
end
def putRow (w : World) (g : Nat) (cs : List Value) : World :=
  { w with heap := w.heap.modify g fun
      | .cells _ t frozen => .cells cs.toArray t frozen
      | o => o }
/-- unicode/utf8.acceptRanges -/
noncomputable def gnum0 : Nat := (Tryd.prog.globalNamed "unicode/utf8.acceptRanges").getD 0
/-- unicode/utf8.first -/
noncomputable def gnum1 : Nat := (Tryd.prog.globalNamed "unicode/utf8.first").getD 0
noncomputable def laidWorld (os : Os) : World := putRow (putRow (World.holding Tryd.prog os ⟨#[], #[], []⟩) gnum0 (flatW Rows.laid_unicode_utf8_acceptRanges)) gnum1 (flatW Rows.laid_unicode_utf8_first)
end Go.Proofs.YtcggpedebcamdaaDoor
