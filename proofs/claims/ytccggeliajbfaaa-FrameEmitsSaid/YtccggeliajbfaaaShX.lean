/- The shelf's contracts of strings.Builder at this program, laid by hand. -/
import Derived.Shelf.Strings.Builder1
import Derived.Shelf.Strings.IndexAnyAll
import Derived.Shelf.Small.Strs
import Derived.Shelf.Strings.Runes
import Derived.Test.YtccggeliajbfaaaProg
set_option linter.unusedVariables false
namespace Go.Proofs.Ytccggeliajbfaaa
open Go.Shelf Go.RowKit
def shRen137 : Ren := ⟨fun | 137 => 24 | 217 => 28 | 266 => 29 | n => n, fun | 3 => 3 | 5 => 5 | 9 => 9 | n => n, fun  | n => n⟩
theorem shLays137 : Go.Proofs.Lays.n137 Try.prog shRen137 := {
  mixed := by kernel_rfl
  f137 := Try.func24.trans (congrArg some (by kernel_rfl))
  f217 := Try.func28.trans (congrArg some (by kernel_rfl))
  f266 := Try.func29.trans (congrArg some (by kernel_rfl))
  t3 := Try.underlying3
  a3 := Try.isAgg3
  z3 := Try.sizeOf3
  v3 := Try.zeroValue3
  t5 := Try.underlying5
  a5 := Try.isAgg5
  z5 := Try.sizeOf5
  v5 := Try.zeroValue5
  t9 := Try.underlying9
  a9 := Try.isAgg9
  z9 := Try.sizeOf9
  v9 := Try.zeroValue9 }
def shRen152 : Ren := ⟨fun | 119 => 25 | 137 => 24 | 152 => 20 | 217 => 28 | 224 => 26 | 225 => 27 | 266 => 29 | n => n, fun | 0 => 0 | 3 => 3 | 4 => 4 | 5 => 5 | 9 => 9 | 21 => 21 | 46 => 60 | n => n, fun  | n => n⟩
theorem shLays152 : Go.Proofs.Lays.n152 Try.prog shRen152 := {
  mixed := by kernel_rfl
  f119 := Try.func25.trans (congrArg some (by kernel_rfl))
  f137 := Try.func24.trans (congrArg some (by kernel_rfl))
  f152 := Try.func20.trans (congrArg some (by kernel_rfl))
  f217 := Try.func28.trans (congrArg some (by kernel_rfl))
  f224 := Try.func26.trans (congrArg some (by kernel_rfl))
  f225 := Try.func27.trans (congrArg some (by kernel_rfl))
  f266 := Try.func29.trans (congrArg some (by kernel_rfl))
  t0 := Try.underlying0
  a0 := Try.isAgg0
  z0 := Try.sizeOf0
  v0 := Try.zeroValue0
  t3 := Try.underlying3
  a3 := Try.isAgg3
  z3 := Try.sizeOf3
  v3 := Try.zeroValue3
  t4 := Try.underlying4
  a4 := Try.isAgg4
  z4 := Try.sizeOf4
  v4 := Try.zeroValue4
  t5 := Try.underlying5
  a5 := Try.isAgg5
  z5 := Try.sizeOf5
  v5 := Try.zeroValue5
  t9 := Try.underlying9
  a9 := Try.isAgg9
  z9 := Try.sizeOf9
  v9 := Try.zeroValue9
  t21 := Try.underlying21
  a21 := Try.isAgg21
  z21 := Try.sizeOf21
  v21 := Try.zeroValue21
  t46 := Try.underlying60
  a46 := Try.isAgg60
  z46 := Try.sizeOf60
  v46 := Try.zeroValue60 }
def shRen153 : Ren := ⟨fun | 119 => 25 | 137 => 24 | 152 => 20 | 153 => 19 | 217 => 28 | 224 => 26 | 225 => 27 | 226 => 21 | 227 => 22 | 228 => 23 | 266 => 29 | n => n, fun | 0 => 0 | 3 => 3 | 4 => 4 | 5 => 5 | 9 => 9 | 21 => 21 | 46 => 60 | 116 => 53 | 117 => 54 | 124 => 61 | n => n, fun  | n => n⟩
theorem shLays153 : Go.Proofs.Lays.n153 Try.prog shRen153 := {
  mixed := by kernel_rfl
  f119 := Try.func25.trans (congrArg some (by kernel_rfl))
  f137 := Try.func24.trans (congrArg some (by kernel_rfl))
  f152 := Try.func20.trans (congrArg some (by kernel_rfl))
  f153 := Try.func19.trans (congrArg some (by kernel_rfl))
  f217 := Try.func28.trans (congrArg some (by kernel_rfl))
  f224 := Try.func26.trans (congrArg some (by kernel_rfl))
  f225 := Try.func27.trans (congrArg some (by kernel_rfl))
  f226 := Try.func21.trans (congrArg some (by kernel_rfl))
  f227 := Try.func22.trans (congrArg some (by kernel_rfl))
  f228 := Try.func23.trans (congrArg some (by kernel_rfl))
  f266 := Try.func29.trans (congrArg some (by kernel_rfl))
  t0 := Try.underlying0
  a0 := Try.isAgg0
  z0 := Try.sizeOf0
  v0 := Try.zeroValue0
  t3 := Try.underlying3
  a3 := Try.isAgg3
  z3 := Try.sizeOf3
  v3 := Try.zeroValue3
  t4 := Try.underlying4
  a4 := Try.isAgg4
  z4 := Try.sizeOf4
  v4 := Try.zeroValue4
  t5 := Try.underlying5
  a5 := Try.isAgg5
  z5 := Try.sizeOf5
  v5 := Try.zeroValue5
  t9 := Try.underlying9
  a9 := Try.isAgg9
  z9 := Try.sizeOf9
  v9 := Try.zeroValue9
  t21 := Try.underlying21
  a21 := Try.isAgg21
  z21 := Try.sizeOf21
  v21 := Try.zeroValue21
  t46 := Try.underlying60
  a46 := Try.isAgg60
  z46 := Try.sizeOf60
  v46 := Try.zeroValue60
  t116 := Try.underlying53
  a116 := Try.isAgg53
  z116 := Try.sizeOf53
  t117 := Try.underlying54
  a117 := Try.isAgg54
  z117 := Try.sizeOf54
  v117 := Try.zeroValue54
  t124 := Try.underlying61
  a124 := Try.isAgg61
  z124 := Try.sizeOf61
  v124 := Try.zeroValue61 }
end Go.Proofs.Ytccggeliajbfaaa
