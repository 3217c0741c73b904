/- The reference's sum of bytes, in plain words, is the program's. -/
import Derived.Test.YthnebhnlkjkcmaaDoorMdS
set_option linter.unusedVariables false
set_option linter.unusedSimpArgs false
namespace Go.Proofs.YthnebhnlkjkcmaaDoor
open Go.RowKit

/-! ### What a step adds -/
def fR (q : Nat) (b c d : BitVec 32) : BitVec 32 :=
  if q = 0 then (b &&& c) ||| (~~~b &&& d) else if q = 1 then (d &&& b) ||| (~~~d &&& c) else if q = 2 then (b ^^^ c) ^^^ d else c ^^^ (b ||| ~~~d)
theorem fR_eq (q : Nat) (b c d : BitVec 32) : fR q b c d = fP q b c d := by
  unfold fR fP
  split
  · ext i hi
    simp
    cases b[i] <;> cases c[i] <;> cases d[i] <;> rfl
  · split
    · ext i hi
      simp
      cases b[i] <;> cases c[i] <;> cases d[i] <;> rfl
    · rfl
/-! ### A word of four bytes -/
theorem or_add (a b k : Nat) (h : a < 2 ^ k) : a ||| b * 2 ^ k = a + b * 2 ^ k := by
  rw [← Nat.shiftLeft_eq, Nat.or_comm, ← Nat.shiftLeft_add_eq_or_of_lt h, Nat.add_comm]
theorem byW_nat (b : UInt8) (k : Nat) (hk : k < 4) : (byW b k).toNat = b.toNat * 2 ^ (8 * k) := by
  unfold byW
  have hb := UInt8.toNat_lt b
  have h1 : (2 : Nat) ^ (8 * k) ≤ 2 ^ 24 := Nat.pow_le_pow_right (by omega) (by omega)
  have e24 : (2 : Nat) ^ 24 = 16777216 := by decide
  have e32 : (2 : Nat) ^ 32 = 4294967296 := by decide
  rw [e24] at h1
  have h2 : b.toNat * 2 ^ (8 * k) ≤ 255 * 16777216 := Nat.mul_le_mul (by omega) h1
  rw [BitVec.toNat_shiftLeft, BitVec.toNat_ofNat, Nat.mod_eq_of_lt (by omega : b.toNat < 2 ^ 32), Nat.shiftLeft_eq]
  exact Nat.mod_eq_of_lt (by omega)
theorem pwW_four (l : List UInt8) (at_ : Nat) : U (pwW l at_ 4) = ((l.getD at_ 0).toNat : Int) + ((l.getD (at_ + 1) 0).toNat : Int) * 256 + ((l.getD (at_ + 2) 0).toNat : Int) * 65536 + ((l.getD (at_ + 3) 0).toNat : Int) * 16777216 := by
  have h0 := UInt8.toNat_lt (l.getD at_ 0)
  have h1 := UInt8.toNat_lt (l.getD (at_ + 1) 0)
  have h2 := UInt8.toNat_lt (l.getD (at_ + 2) 0)
  have h3 := UInt8.toNat_lt (l.getD (at_ + 3) 0)
  have e : (pwW l at_ 4).toNat = (l.getD at_ 0).toNat + (l.getD (at_ + 1) 0).toNat * 256 + (l.getD (at_ + 2) 0).toNat * 65536 + (l.getD (at_ + 3) 0).toNat * 16777216 := by
    simp only [pwW, BitVec.toNat_or, byW_nat _ _ (show 0 < 4 by omega), byW_nat _ _ (show 1 < 4 by omega), byW_nat _ _ (show 2 < 4 by omega), byW_nat _ _ (show 3 < 4 by omega), Nat.add_zero]
    have e0 : (0 : BitVec 32).toNat ||| (l.getD at_ 0).toNat * 2 ^ (8 * 0) = (l.getD at_ 0).toNat := by simp
    rw [e0, or_add _ _ (8 * 1) (by omega), or_add _ _ (8 * 2) (by omega), or_add _ _ (8 * 3) (by omega)]
  unfold U
  rw [e]
  omega
theorem pwW_cut (P : List UInt8) (at_ g : Nat) (hP : at_ + 64 ≤ P.length) : ∀ k, 4 * g + k ≤ 64 → pwW ((P.drop at_).take 64) (4 * g) k = pwW P (at_ + 4 * g) k
  | 0, _ => rfl
  | k + 1, h => by
    rw [pwW, pwW, pwW_cut P at_ g hP k (by omega)]
    congr 2
    rw [List.getD_eq_getElem?_getD, List.getD_eq_getElem?_getD, List.getElem?_take_of_lt (by omega), List.getElem?_drop, Nat.add_assoc]
theorem mW_cut (P : List UInt8) (at_ g : Nat) (hP : at_ + 64 ≤ P.length) (hg : g < 16) : mW ((P.drop at_).take 64) g = pwW P (at_ + 4 * g) 4 := pwW_cut P at_ g hP 4 (by omega)
theorem gP_lt (i : Nat) (h : i < 64) : gP i < 16 := by
  unfold gP
  repeat' split
  all_goals omega
/-! ### Bytes with what stands behind them -/
def zN (n : Nat) : Nat := (119 - n % 64) % 64
/-- Of the noughts k. -/
def padK (L : List UInt8) (k : Nat) : List UInt8 := (L ++ [128]) ++ List.replicate k 0
theorem padK_len (L : List UInt8) (k : Nat) : (padK L k).length = L.length + 1 + k := by simp [padK]; omega
theorem padK_snoc (L : List UInt8) (k : Nat) : padK L (k + 1) = padK L k ++ [0] := by simp [padK, List.replicate_succ']
/-- Of the bits' number j bytes. -/
def padJ (L : List UInt8) (j : Nat) : List UInt8 := padK L (zN L.length) ++ (List.range j).map (lenB L.length)
theorem padJ_len (L : List UInt8) (j : Nat) : (padJ L j).length = L.length + 1 + zN L.length + j := by simp [padJ, padK_len]
theorem padJ_snoc (L : List UInt8) (j : Nat) : padJ L (j + 1) = padJ L j ++ [lenB L.length j] := by simp [padJ, List.range_succ]
def padL (L : List UInt8) : List UInt8 := padJ L 8
theorem padL_len (L : List UInt8) : (padL L).length = 64 * (L.length / 64 + endN L.length / 64) := by
  unfold padL
  rw [padJ_len]
  unfold zN endN
  split <;> omega
theorem zN_test (n k : Nat) (hk : k ≤ zN n) : (n + 1 + k) % 64 = 56 ↔ k = zN n := by
  unfold zN at *
  omega
theorem lastI_at (L : List UInt8) : ∀ m i, m ≤ 8 → (lastI L m)[i]? = if endN L.length - 8 ≤ i ∧ i < endN L.length - 8 + m then some (lenB L.length (i - (endN L.length - 8))) else (lastI L 0)[i]?
  | 0, i, _ => by rw [if_neg (by omega)]
  | m + 1, i, hm => by
    have hE : endN L.length ≤ 128 ∧ 64 ≤ endN L.length := by unfold endN; split <;> omega
    show ((lastI L m).set (endN L.length - 8 + m) (lenB L.length m))[i]? = _
    rw [List.getElem?_set, lastI_at L m i (by omega), lastI_len]
    by_cases h : endN L.length - 8 + m = i
    · rw [if_pos h, if_pos (by omega), if_pos (by omega)]
      congr 2
      omega
    · rw [if_neg h]
      by_cases h2 : endN L.length - 8 ≤ i ∧ i < endN L.length - 8 + m
      · rw [if_pos h2, if_pos (by omega)]
      · rw [if_neg h2, if_neg (by omega)]
theorem last0_at (L : List UInt8) (i : Nat) (hi : i < 128) : (lastI L 0)[i]? = if i < L.length % 64 then L[64 * (L.length / 64) + i]? else if i = L.length % 64 then some 128 else some 0 := by
  have hl : (L.drop (64 * (L.length / 64))).length = L.length % 64 := by rw [List.length_drop]; omega
  rw [lastI, List.getElem?_set, List.length_append, hl, List.length_replicate]
  by_cases h1 : L.length % 64 = i
  · rw [if_pos h1, if_pos (by omega), if_neg (by omega), if_pos h1.symm]
  · rw [if_neg h1]
    by_cases h2 : i < L.length % 64
    · rw [if_pos h2, List.getElem?_append_left (by omega), List.getElem?_drop]
    · rw [if_neg h2, if_neg (fun e => h1 e.symm), List.getElem?_append_right (by omega), List.getElem?_replicate, if_pos (by omega)]
theorem padL_at (L : List UInt8) (i : Nat) (hi : i < endN L.length) : (padL L)[64 * (L.length / 64) + i]? = (lastI L 8)[i]? := by
  have hE : endN L.length = L.length % 64 + 1 + zN L.length + 8 := by unfold endN zN; split <;> omega
  have hE2 : endN L.length ≤ 128 := by unfold endN; split <;> omega
  rw [lastI_at L 8 i (Nat.le_refl _)]
  unfold padL padJ
  by_cases h : endN L.length - 8 ≤ i
  · rw [if_pos (by omega), List.getElem?_append_right (by rw [padK_len]; omega), padK_len, List.getElem?_map, List.getElem?_range (by omega)]
    simp only [Option.map_some]
    congr 2
    omega
  · rw [if_neg (by omega), last0_at L i (by omega), List.getElem?_append_left (by rw [padK_len]; omega)]
    unfold padK
    by_cases h1 : i < L.length % 64
    · rw [if_pos h1, List.getElem?_append_left (by simp; omega), List.getElem?_append_left (by omega)]
    · rw [if_neg h1]
      by_cases h2 : i = L.length % 64
      · rw [if_pos h2, List.getElem?_append_left (by simp; omega), List.getElem?_append_right (by omega), show 64 * (L.length / 64) + i - L.length = 0 by omega]
        rfl
      · rw [if_neg h2, List.getElem?_append_right (by simp; omega), List.getElem?_replicate, if_pos (by simp; omega)]
theorem padL_low (L : List UInt8) (i : Nat) (hi : i < 64 * (L.length / 64)) : (padL L)[i]? = L[i]? := by
  unfold padL padJ padK
  rw [List.getElem?_append_left (by simp; omega), List.getElem?_append_left (by simp; omega), List.getElem?_append_left (by omega)]
/-! ### Blocks -/
theorem blkP_eq {P Q : List UInt8} : ∀ (k : Nat) (s : S4), (∀ i, i < 64 * k → P[i]? = Q[i]?) → blkP s P k = blkP s Q k
  | 0, _, _ => rfl
  | k + 1, s, h => by
    rw [blkP, blkP, blkP_eq k s fun i hi => h i (by omega)]
    congr 2
    apply List.ext_getElem?
    intro j
    by_cases hj : j < 64
    · rw [List.getElem?_take_of_lt hj, List.getElem?_take_of_lt hj, List.getElem?_drop, List.getElem?_drop, h _ (by omega)]
    · rw [List.getElem?_eq_none (by rw [List.length_take]; omega), List.getElem?_eq_none (by rw [List.length_take]; omega)]
theorem blkP_add (P : List UInt8) (s : S4) (a : Nat) : ∀ b, blkP s P (a + b) = blkP (blkP s P a) (P.drop (64 * a)) b
  | 0 => rfl
  | b + 1 => by
    rw [← Nat.add_assoc, blkP, blkP, blkP_add P s a b, List.drop_drop]
    congr 4
    omega
theorem refSum_eq (L : List UInt8) : blkP initS (padL L) (L.length / 64 + endN L.length / 64) = sumP L := by
  rw [blkP_add, blkP_eq (Q := L) (L.length / 64) initS fun i hi => padL_low L i hi]
  unfold sumP
  refine blkP_eq _ _ fun i hi => ?_
  rw [List.getElem?_drop]
  refine padL_at L i ?_
  have : endN L.length = 64 ∨ endN L.length = 128 := by unfold endN; split <;> simp
  omega
end Go.Proofs.YthnebhnlkjkcmaaDoor
