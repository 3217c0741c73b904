/- A world in which the listed tables are laid. -/
import Derived.Test.YtammhfnolafknaaDoorRows
import Derived.Lib.LaidTab
import Derived.KernelRfl
set_option linter.unusedVariables false
namespace Go.Proofs.YtammhfnolafknaaDoor
mutual
/-- The cells of a plain datum. -/
def flatW : DataW Unit → List Value
  | .lit (.int k n) => [.int k n]
  | .lit (.bool b) => [.bool b]
  | .agg parts => flatAllW parts
  | _ => []
def flatAllW : List (DataW Unit) → List Value
  | [] => []
  | d :: r => flatW d ++ flatAllW r
end
def putRow (w : World) (g : Nat) (cs : List Value) : World :=
  { w with heap := w.heap.modify g fun
      | .cells _ t frozen => .cells cs.toArray t frozen
      | o => o }
/-- math/bits.deBruijn32tab -/
noncomputable def gnum0 : Nat := (Tryd.prog.globalNamed "math/bits.deBruijn32tab").getD 0
/-- math/bits.deBruijn64tab -/
noncomputable def gnum1 : Nat := (Tryd.prog.globalNamed "math/bits.deBruijn64tab").getD 0
/-- internal/strconv.uint64pow10 -/
noncomputable def gnum2 : Nat := (Tryd.prog.globalNamed "internal/strconv.uint64pow10").getD 0
noncomputable def laidWorld (os : Os) : World := putRow (putRow (putRow (World.holding Tryd.prog os ⟨#[], #[], []⟩) gnum0 (flatW Rows.laid_math_bits_deBruijn32tab)) gnum1 (flatW Rows.laid_math_bits_deBruijn64tab)) gnum2 (flatW Rows.laid_internal_strconv_uint64pow10)
end Go.Proofs.YtammhfnolafknaaDoor
