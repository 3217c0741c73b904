/- The shelf's contracts of strings.Builder at this program, laid by hand. -/
import Derived.Shelf.Strings.Builder1
import Derived.Shelf.Strings.Prefix
import Derived.Test.YtamemddgajmimaaDoorProg
set_option linter.unusedVariables false
namespace Go.Proofs.YtamemddgajmimaaDoor
open Go.Shelf Go.RowKit
def shRen101 : Ren := ⟨fun | 101 => 37 | 206 => 52 | 208 => 42 | n => n, fun | 3 => 3 | 4 => 4 | 9 => 9 | n => n, fun  | n => n⟩
theorem shLays101 : Go.Proofs.Lays.n101 Tryd.prog shRen101 := {
  mixed := by kernel_rfl
  f101 := Tryd.func37.trans (congrArg some (by kernel_rfl))
  f206 := Tryd.func52.trans (congrArg some (by kernel_rfl))
  f208 := Tryd.func42.trans (congrArg some (by kernel_rfl))
  t3 := Tryd.underlying3
  a3 := Tryd.isAgg3
  z3 := Tryd.sizeOf3
  v3 := Tryd.zeroValue3
  t4 := Tryd.underlying4
  a4 := Tryd.isAgg4
  z4 := Tryd.sizeOf4
  v4 := Tryd.zeroValue4
  t9 := Tryd.underlying9
  a9 := Tryd.isAgg9
  z9 := Tryd.sizeOf9
  v9 := Tryd.zeroValue9 }
end Go.Proofs.YtamemddgajmimaaDoor
