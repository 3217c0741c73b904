/- Words out of bytes: plain. -/
import Derived.Test.YthnebhnlkjkcmaaDoorMd
set_option linter.unusedVariables false
namespace Go.Proofs.YthnebhnlkjkcmaaDoor
open Go.RowKit

/-- A byte as a word, turned to its place. -/
def byW (b : UInt8) (k : Nat) : BitVec 32 := (BitVec.ofNat 32 b.toNat) <<< (8 * k)
/-- The word of the bytes from a place on, k of them. -/
def pwW (l : List UInt8) (at_ : Nat) : Nat → BitVec 32
  | 0 => 0
  | k + 1 => pwW l at_ k ||| byW (l.getD (at_ + k) 0) k
/-- The words of a block of which i bytes are taken. -/
def mI (l : List UInt8) (i g : Nat) : BitVec 32 := pwW l (4 * g) (min 4 (i - 4 * g))
theorem mI_zero (l : List UInt8) (g : Nat) : mI l 0 g = 0 := by
  unfold mI
  rw [Nat.zero_sub, Nat.min_zero]
  rfl
theorem mI_here (l : List UInt8) (i : Nat) : mI l (i + 1) (i / 4) = mI l i (i / 4) ||| byW (l.getD i 0) (i % 4) := by
  unfold mI
  have e1 : min 4 (i - 4 * (i / 4)) = i % 4 := by omega
  have e2 : min 4 (i + 1 - 4 * (i / 4)) = i % 4 + 1 := by omega
  rw [e1, e2, pwW, show 4 * (i / 4) + i % 4 = i by omega]
theorem mI_else (l : List UInt8) (i g : Nat) (h : g ≠ i / 4) : mI l (i + 1) g = mI l i g := by
  unfold mI
  congr 1
  omega
/-- The words of a block. -/
def mW (l : List UInt8) (g : Nat) : BitVec 32 := pwW l (4 * g) 4
theorem mI_all (l : List UInt8) (g : Nat) (hg : g < 16) : mI l 64 g = mW l g := by
  unfold mI mW
  congr 1
  omega
def mCells (l : List UInt8) (i : Nat) : Array Value := ((List.range 16).map fun g => Value.int .u32 (U (mI l i g))).toArray
theorem mCells_set (l : List UInt8) (i : Nat) (hi : i < 64) : (mCells l i).setIfInBounds (i / 4) (.int .u32 (U (mI l i (i / 4) ||| byW (l.getD i 0) (i % 4)))) = mCells l (i + 1) := by
  rw [← mI_here]
  unfold mCells
  rw [List.setIfInBounds_toArray]
  congr 1
  apply List.ext_getElem?
  intro g
  rw [List.getElem?_set]
  by_cases hg : g < 16
  · simp only [List.length_map, List.length_range, List.getElem?_map, List.getElem?_range hg, Option.map_some]
    by_cases he : i / 4 = g
    · rw [if_pos he, if_pos (by omega), he]
    · rw [if_neg he, mI_else l i g (Ne.symm he)]
  · rw [if_neg (by omega), List.getElem?_eq_none (by simp; omega), List.getElem?_eq_none (by simp; omega)]
theorem mCells_at (l : List UInt8) (i g : Nat) (hg : g < 16) : (mCells l i)[g]? = some (.int .u32 (U (mI l i g))) := by
  unfold mCells
  rw [List.getElem?_toArray, List.getElem?_map, List.getElem?_range hg]
  rfl
theorem byW_U (b : UInt8) (k : Nat) (hk : k < 4) : U (byW b k) = (b.toNat : Int) * 2 ^ (8 * k) % 4294967296 := by
  unfold byW U
  have hb := UInt8.toNat_lt b
  rw [BitVec.toNat_shiftLeft, BitVec.toNat_ofNat, Nat.mod_eq_of_lt (by omega : b.toNat < 2 ^ 32), Nat.shiftLeft_eq]
  simp
end Go.Proofs.YthnebhnlkjkcmaaDoor
