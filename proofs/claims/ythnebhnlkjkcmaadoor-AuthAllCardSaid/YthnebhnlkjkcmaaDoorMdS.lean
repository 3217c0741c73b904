/- The sum of bytes: what the program makes of them, in plain words. -/
import Derived.Test.YthnebhnlkjkcmaaDoorMdW
set_option linter.unusedVariables false
namespace Go.Proofs.YthnebhnlkjkcmaaDoor
open Go.RowKit

/-- k blocks are added. -/
def blkP (s : S4) (l : List UInt8) : Nat → S4
  | 0 => s
  | k + 1 => addP (mW ((l.drop (64 * k)).take 64)) (blkP s l k)
def initS : S4 := ⟨1732584193#32, 4023233417#32, 2562383102#32, 271733878#32⟩
/-- A byte of how many bits there are. -/
def lenB (n i : Nat) : UInt8 := UInt8.ofNat (n * 8 / 2 ^ (8 * i))
def endN (n : Nat) : Nat := if 64 < n % 64 + 9 then 128 else 64
/-- What is left of the bytes, and what stands behind them: of the bits' number i bytes. -/
def lastI (L : List UInt8) : Nat → List UInt8
  | 0 => (L.drop (64 * (L.length / 64)) ++ List.replicate (128 - L.length % 64) 0).set (L.length % 64) 128
  | i + 1 => (lastI L i).set (endN L.length - 8 + i) (lenB L.length i)
def sumP (L : List UInt8) : S4 := blkP (blkP initS L (L.length / 64)) (lastI L 8) (endN L.length / 64)
/-- A byte of the sum. -/
def wordN (s : S4) (g : Nat) : BitVec 32 := if g = 0 then s.a else if g = 1 then s.b else if g = 2 then s.c else s.d
def outB (s : S4) (j : Nat) : UInt8 := UInt8.ofNat ((wordN s (j / 4)).toNat / 2 ^ (8 * (j % 4)))
def outL (s : S4) : List UInt8 := (List.range 16).map (outB s)
/-- The sixteen bytes that stand for others. -/
def md5P (L : List UInt8) : List UInt8 := outL (sumP L)
theorem lastI_len (L : List UInt8) : ∀ i, (lastI L i).length = 128
  | 0 => by
    rw [lastI, List.length_set, List.length_append, List.length_drop, List.length_replicate]
    omega
  | i + 1 => by rw [lastI, List.length_set, lastI_len L i]
theorem b8s_set (l : List UInt8) (k : Nat) (v : UInt8) : (b8s l).toArray.setIfInBounds k (B8 v) = (b8s (l.set k v)).toArray := by
  rw [List.setIfInBounds_toArray]
  congr 1
  unfold b8s
  rw [List.map_set]
end Go.Proofs.YthnebhnlkjkcmaaDoor
