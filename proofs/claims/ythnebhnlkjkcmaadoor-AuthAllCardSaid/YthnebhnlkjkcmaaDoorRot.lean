/- Words of 32 bits: what the operations give; RotateLeft32. -/
import Derived.Test.YthnebhnlkjkcmaaDoorW
import Derived.Test.YthnebhnlkjkcmaaDoorProg
import Derived.Laws.BitsAllLaws
import Derived.IntWalk
set_option linter.unusedVariables false
set_option linter.unusedSimpArgs false
namespace Go.Proofs.YthnebhnlkjkcmaaDoor
open Go.RowKit

/-- A word's number. -/
def U (x : BitVec 32) : Int := ((x.toNat : Nat) : Int)
theorem U_bd (x : BitVec 32) : 0 ≤ U x ∧ U x < 4294967296 := by
  have := x.isLt
  unfold U
  omega
theorem ofInt_U (x : BitVec 32) : BitVec.ofInt 32 (U x) = x := by
  unfold U
  rw [BitVec.ofInt_natCast, BitVec.ofNat_toNat, BitVec.setWidth_eq]
theorem wrap_U (x : BitVec 32) : IntKind.u32.wrap (U x) = U x := by
  have := U_bd x
  rw [IntKind.wrap_u32']
  omega
theorem xor_U (x y : BitVec 32) : bits .xor .u32 (U x) (U y) = U (x ^^^ y) := by
  show IntKind.u32.wrap (((BitVec.ofInt 32 (U x) ^^^ BitVec.ofInt 32 (U y)).toNat : Nat) : Int) = _
  rw [ofInt_U, ofInt_U]
  exact wrap_U _
theorem and_U (x y : BitVec 32) : bits .and .u32 (U x) (U y) = U (x &&& y) := by
  show IntKind.u32.wrap (((BitVec.ofInt 32 (U x) &&& BitVec.ofInt 32 (U y)).toNat : Nat) : Int) = _
  rw [ofInt_U, ofInt_U]
  exact wrap_U _
theorem or_U (x y : BitVec 32) : bits .or .u32 (U x) (U y) = U (x ||| y) := by
  show IntKind.u32.wrap (((BitVec.ofInt 32 (U x) ||| BitVec.ofInt 32 (U y)).toNat : Nat) : Int) = _
  rw [ofInt_U, ofInt_U]
  exact wrap_U _
theorem ones_U : U (BitVec.allOnes 32) = 4294967295 := by decide
theorem not_U (x : BitVec 32) : bits .xor .u32 4294967295 (U x) = U (~~~x) := by
  rw [← ones_U, xor_U, BitVec.allOnes_xor]
theorem add_U (x y : BitVec 32) : IntKind.u32.wrap (U x + U y) = U (x + y) := by
  rw [IntKind.wrap_u32']
  unfold U
  rw [BitVec.toNat_add]
  omega
theorem rot_U (x : BitVec 32) (k : Nat) (h0 : 0 < k) (hk : k < 32) : U (x.rotateLeft k) = bits .or .u32 (U x * 2 ^ k % 4294967296) (U x / 2 ^ (32 - k)) := by
  have e1 : U x * 2 ^ k % 4294967296 = U (x <<< k) := by
    unfold U
    rw [BitVec.toNat_shiftLeft, Nat.shiftLeft_eq]
    simp
  have e2 : U x / 2 ^ (32 - k) = U (x >>> (32 - k)) := by
    unfold U
    rw [BitVec.toNat_ushiftRight, Nat.shiftRight_eq_div_pow]
    simp
  rw [e1, e2, or_U, BitVec.rotateLeft_def, Nat.mod_eq_of_lt hk]
theorem rot_calls (w : World) (x : BitVec 32) (k : Nat) (h0 : 0 < k) (hk : k < 32) :
    Calls Tryd.prog 74 #[.int .u32 (U x), .int .i64 (k : Int)] w fun en w' => en = .returned (.int .u32 (U (x.rotateLeft k))) ∧ w = w' := by
  have hb := U_bd x
  have hm : bits .and .u64 (k : Int) 31 = (k : Int) := by
    have := bits_and_u64_nat k 31 (by omega) (by omega)
    have e : k &&& 31 = k := by
      have := Nat.and_two_pow_sub_one_eq_mod k 5
      rw [show 2 ^ 5 - 1 = 31 from rfl] at this
      rw [this]
      exact Nat.mod_eq_of_lt (by omega)
    rw [e] at this
    exact this
  obtain ⟨hb0, hb1⟩ := hb
  go_enter Tryd.func74, Tryd.ntmps74
  go_wp2_with fail
  go_ret
  exact ⟨by rw [rot_U x k h0 hk]; rfl, rfl⟩
end Go.Proofs.YthnebhnlkjkcmaaDoor
