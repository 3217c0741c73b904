/- What only who knows a secret can tell: plain words. -/
import Derived.Test.YthnebhnlkjkcmaaDoorMdS
import Derived.Laws.BitsAllLaws
set_option linter.unusedVariables false
set_option linter.unusedSimpArgs false
namespace Go.Proofs.YthnebhnlkjkcmaaDoor
open Go.RowKit

/-- A key of at most 64 bytes, with noughts behind it, of which i bytes are turned by x. -/
def xorI (key : List UInt8) (x : UInt8) (i : Nat) : List UInt8 := (List.range 64).map fun j => if j < i then key.getD j 0 ^^^ x else key.getD j 0
def xorK (key : List UInt8) (x : UInt8) : List UInt8 := (List.range 64).map fun j => key.getD j 0 ^^^ x
def keyP (key : List UInt8) : List UInt8 := if 64 < key.length then md5P key else key
def hmacP (key b : List UInt8) : List UInt8 := md5P (xorK (keyP key) 92 ++ md5P (xorK (keyP key) 54 ++ b))
theorem xorI_len (key : List UInt8) (x : UInt8) (i : Nat) : (xorI key x i).length = 64 := by simp [xorI]
theorem xorK_len (key : List UInt8) (x : UInt8) : (xorK key x).length = 64 := by simp [xorK]
theorem xorI_zero (key : List UInt8) (x : UInt8) (h : key.length ≤ 64) : xorI key x 0 = key ++ List.replicate (64 - key.length) 0 := by
  apply List.ext_getElem?
  intro j
  unfold xorI
  rw [List.getElem?_map]
  by_cases hj : j < 64
  · rw [List.getElem?_range hj, Option.map_some, if_neg (by omega), List.getD_eq_getElem?_getD]
    by_cases hk : j < key.length
    · rw [List.getElem?_append_left hk, List.getElem?_eq_getElem hk]
      rfl
    · rw [List.getElem?_append_right (by omega), List.getElem?_replicate, if_pos (by omega), List.getElem?_eq_none (by omega)]
      rfl
  · rw [List.getElem?_eq_none (by simp; omega), List.getElem?_eq_none (by simp; omega)]
    rfl
theorem xorI_all (key : List UInt8) (x : UInt8) : xorI key x 64 = xorK key x := by
  unfold xorI xorK
  refine List.map_congr_left fun j hj => ?_
  rw [if_pos (List.mem_range.1 hj)]
theorem xorI_at (key : List UInt8) (x : UInt8) (i : Nat) (hi : i < 64) : (xorI key x i)[i]? = some (key.getD i 0) := by
  unfold xorI
  rw [List.getElem?_map, List.getElem?_range hi, Option.map_some, if_neg (by omega)]
theorem xorI_set (key : List UInt8) (x : UInt8) (i : Nat) (hi : i < 64) : (xorI key x i).set i (key.getD i 0 ^^^ x) = xorI key x (i + 1) := by
  apply List.ext_getElem?
  intro j
  rw [List.getElem?_set, xorI_len]
  unfold xorI
  rw [List.getElem?_map, List.getElem?_map]
  by_cases hj : j < 64
  · rw [List.getElem?_range hj]
    simp only [Option.map_some]
    by_cases he : i = j
    · rw [if_pos he, if_pos hi, if_pos (by omega), he]
    · rw [if_neg he]
      by_cases hl : j < i
      · rw [if_pos hl, if_pos (by omega)]
      · rw [if_neg hl, if_neg (by omega)]
  · rw [if_neg (by omega), List.getElem?_eq_none (by simp; omega)]
    rfl
theorem keyP_len (key : List UInt8) : (keyP key).length ≤ 64 := by
  unfold keyP
  split
  · simp [md5P, outL]
  · omega
theorem xor_B8 (a x : UInt8) : bits .xor .u8 (a.toNat : Int) (x.toNat : Int) = ((a ^^^ x).toNat : Int) := by
  rw [Go.u8_xor_nat a.toNat x.toNat a.toNat_lt x.toNat_lt, UInt8.toNat_xor]
/-- Noughts behind a key do not matter. -/
theorem xorK_zeros (key : List UInt8) (x : UInt8) (k : Nat) : xorK (key ++ List.replicate k 0) x = xorK key x := by
  unfold xorK
  refine List.map_congr_left fun j _ => ?_
  congr 1
  rw [List.getD_eq_getElem?_getD, List.getD_eq_getElem?_getD]
  by_cases hj : j < key.length
  · rw [List.getElem?_append_left hj]
  · rw [List.getElem?_append_right (by omega), List.getElem?_replicate, List.getElem?_eq_none (show key.length ≤ j by omega)]
    split <;> rfl
end Go.Proofs.YthnebhnlkjkcmaaDoor
