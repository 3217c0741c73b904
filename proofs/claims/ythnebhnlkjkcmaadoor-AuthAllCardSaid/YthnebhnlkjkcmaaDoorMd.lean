/- The sum of bytes, in plain words. -/
import Derived.Test.YthnebhnlkjkcmaaDoorRot
import Derived.Test.YthnebhnlkjkcmaaDoorSinT
set_option linter.unusedVariables false
namespace Go.Proofs.YthnebhnlkjkcmaaDoor
open Go.RowKit

structure S4 where
  (a b c d : BitVec 32)
def turnN : List Nat := [7, 12, 17, 22, 5, 9, 14, 20, 4, 11, 16, 23, 6, 10, 15, 21]
def turnAt (i : Nat) : Nat := turnN.getD (i / 16 * 4 + i % 4) 0
def fP (q : Nat) (b c d : BitVec 32) : BitVec 32 :=
  if q = 0 then d ^^^ (b &&& (c ^^^ d)) else if q = 1 then c ^^^ (d &&& (b ^^^ c)) else if q = 2 then (b ^^^ c) ^^^ d else c ^^^ (b ||| ~~~d)
def gP (i : Nat) : Nat := if i / 16 = 0 then i % 16 else if i / 16 = 1 then (5 * i + 1) % 16 else if i / 16 = 2 then (3 * i + 5) % 16 else (7 * i) % 16
def stepP (m : Nat → BitVec 32) (i : Nat) (s : S4) : S4 :=
  ⟨s.d, s.b + (((s.a + fP (i / 16) s.b s.c s.d) + BitVec.ofNat 32 (sineN i)) + m (gP i)).rotateLeft (turnAt i), s.b, s.c⟩
def runP (m : Nat → BitVec 32) (s : S4) : Nat → S4
  | 0 => s
  | n + 1 => stepP m n (runP m s n)
def sumS (x s : S4) : S4 := ⟨x.a + s.a, x.b + s.b, x.c + s.c, x.d + s.d⟩
def addP (m : Nat → BitVec 32) (s : S4) : S4 := sumS (runP m s 64) s
def vS4 (s : S4) : Value := .agg #[.int .u32 (U s.a), .int .u32 (U s.b), .int .u32 (U s.c), .int .u32 (U s.d)]
theorem sineN_lt : ∀ i : Fin 64, sineN i.val < 4294967296 := by decide +kernel
theorem U_ofNat {n : Nat} (h : n < 4294967296) : U (BitVec.ofNat 32 n) = (n : Int) := by
  unfold U
  rw [BitVec.toNat_ofNat, Nat.mod_eq_of_lt h]
theorem turnAt_bd : ∀ i : Fin 64, 0 < turnAt i.val ∧ turnAt i.val < 32 := by decide +kernel
end Go.Proofs.YthnebhnlkjkcmaaDoor
