/- x & (2^k - 1) of any int. Plain. -/
import Derived.Test.YtlbipnfnimekfaaDoorW
import Derived.Laws.BitsAllLaws
set_option linter.unusedVariables false
namespace Go.Proofs.YtlbipnfnimekfaaDoor
open Go.RowKit

theorem mask_i64 (p : Int) (k : Nat) (hk : k ≤ 30) : bits .and .i64 p (((2 ^ k - 1 : Nat)) : Int) = p % ((2 ^ k : Nat) : Int) := by
  show IntKind.i64.wrap ((BitVec.ofInt 64 p &&& BitVec.ofInt 64 ((2 ^ k - 1 : Nat) : Int)).toNat : Int) = _
  have hp : (2 : Nat) ^ k ≤ 2 ^ 30 := Nat.pow_le_pow_right (by decide) hk
  have hpos : 0 < (2 : Nat) ^ k := Nat.two_pow_pos k
  have e30 : (2 : Nat) ^ 30 = 1073741824 := by decide
  have e1 : (BitVec.ofInt 64 ((2 ^ k - 1 : Nat) : Int)).toNat = 2 ^ k - 1 := by
    rw [BitVec.ofInt_natCast, BitVec.toNat_ofNat]
    exact Nat.mod_eq_of_lt (by omega)
  have e2 : (BitVec.ofInt 64 p).toNat = (p % 18446744073709551616).toNat := by
    rw [BitVec.toNat_ofInt]
    rfl
  rw [BitVec.toNat_and, e1, e2, Nat.and_two_pow_sub_one_eq_mod]
  have hdvd : ((2 ^ k : Nat) : Int) ∣ 18446744073709551616 := by
    refine ⟨((2 ^ (64 - k) : Nat) : Int), ?_⟩
    rw [← Int.natCast_mul, ← Nat.pow_add, show k + (64 - k) = 64 by omega]
    rfl
  have h0 : 0 ≤ p % 18446744073709551616 := Int.emod_nonneg _ (by decide)
  have e3 : (((p % 18446744073709551616).toNat % 2 ^ k : Nat) : Int) = p % ((2 ^ k : Nat) : Int) := by
    rw [Int.natCast_emod, Int.toNat_of_nonneg h0]
    exact Int.emod_emod_of_dvd _ hdvd
  rw [e3]
  have hb0 : 0 ≤ p % ((2 ^ k : Nat) : Int) := Int.emod_nonneg _ (by omega)
  have hb1 : p % ((2 ^ k : Nat) : Int) < ((2 ^ k : Nat) : Int) := Int.emod_lt_of_pos _ (by omega)
  generalize p % ((2 ^ k : Nat) : Int) = x at hb0 hb1
  have : x < 1073741824 := by omega
  simp [IntKind.wrap, IntKind.bits, IntKind.signed]
  omega
theorem mask255 (p : Int) : bits .and .i64 p 255 = p % 256 := mask_i64 p 8 (by decide)
theorem mask1023 (p : Int) : bits .and .i64 p 1023 = p % 1024 := mask_i64 p 10 (by decide)
theorem mask18 (p : Int) : bits .and .i64 p 262143 = p % 262144 := mask_i64 p 18 (by decide)
theorem mask20 (p : Int) : bits .and .i64 p 1048575 = p % 1048576 := mask_i64 p 20 (by decide)
end Go.Proofs.YtlbipnfnimekfaaDoor
