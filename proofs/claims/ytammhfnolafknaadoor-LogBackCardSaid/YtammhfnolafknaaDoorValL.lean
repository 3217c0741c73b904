/- Values of digits. -/
import Derived.Test.YtammhfnolafknaaDoorNumL
import Derived.Lib.AtoiAllCases
set_option linter.unusedVariables false
set_option linter.unusedSimpArgs false
namespace Go.Proofs.YtammhfnolafknaaDoor
open Go.RowKit Go.Lib

/-- The value of digits behind others. -/
def valF (acc : Nat) (l : List UInt8) : Nat := l.foldl (fun a c => a * 10 + (c.toNat - 48)) acc
theorem valF_cons (acc : Nat) (c : UInt8) (r : List UInt8) : valF acc (c :: r) = valF (acc * 10 + (c.toNat - 48)) r := by
  unfold valF
  rw [List.foldl_cons]
theorem valF_snoc (l : List UInt8) (acc : Nat) (c : UInt8) : valF acc (l ++ [c]) = valF acc l * 10 + (c.toNat - 48) := by
  unfold valF
  rw [List.foldl_append, List.foldl_cons, List.foldl_nil]
/-- The number of digits, if it is one. -/
def numD (l : List UInt8) (most : Int) : Option Int :=
  if l ≠ [] ∧ l.length ≤ 9 ∧ l.all digC = true ∧ (valF 0 l : Int) ≤ most then some (valF 0 l : Int) else none
theorem digC_bd {c : UInt8} (h : digC c = true) : 48 ≤ c.toNat ∧ c.toNat ≤ 57 := by simpa [digC] using h
theorem pu_val : ∀ (l : List UInt8) (acc : Nat), l.all digC = true → (acc + 1) * 10 ^ l.length ≤ 1000000000000000000 → parseUint10 acc l = .ok (valF acc l)
  | [], acc, _, _ => rfl
  | c :: l, acc, h, hb => by
    rw [List.all_cons, Bool.and_eq_true] at h
    have hc := digC_bd h.1
    have hp : 1 ≤ 10 ^ l.length := Nat.one_le_pow _ _ (by omega)
    rw [List.length_cons, Nat.pow_succ] at hb
    have hb2 : (acc * 10 + (c.toNat - 48) + 1) * 10 ^ l.length ≤ 1000000000000000000 := by
      refine Nat.le_trans ?_ hb
      rw [show (acc + 1) * (10 ^ l.length * 10) = ((acc + 1) * 10) * 10 ^ l.length by rw [Nat.mul_comm (10 ^ l.length) 10, Nat.mul_assoc]]
      exact Nat.mul_le_mul_right _ (by omega)
    have hb3 : acc * 10 + (c.toNat - 48) + 1 ≤ 1000000000000000000 := Nat.le_trans (Nat.le_mul_of_pos_right _ hp) hb2
    rw [parseUint10, if_pos hc, if_neg (by omega), if_neg (by omega), valF_cons]
    exact pu_val l _ h.2 hb2
theorem valF_lt : ∀ (l : List UInt8) (acc : Nat), l.all digC = true → valF acc l < (acc + 1) * 10 ^ l.length
  | [], acc, _ => by simp [valF]
  | c :: l, acc, h => by
    rw [List.all_cons, Bool.and_eq_true] at h
    have hc := digC_bd h.1
    rw [valF_cons]
    refine Nat.lt_of_lt_of_le (valF_lt l _ h.2) ?_
    rw [List.length_cons, Nat.pow_succ, show (acc + 1) * (10 ^ l.length * 10) = ((acc + 1) * 10) * 10 ^ l.length by rw [Nat.mul_comm (10 ^ l.length) 10, Nat.mul_assoc]]
    exact Nat.mul_le_mul_right _ (by omega)
theorem valF_le {l : List UInt8} (h : l.all digC = true) {k : Nat} (hk : l.length ≤ k) : valF 0 l < 10 ^ k := by
  have := valF_lt l 0 h
  rw [Nat.zero_add, Nat.one_mul] at this
  exact Nat.lt_of_lt_of_le this (Nat.pow_le_pow_right (by omega) hk)
theorem numA_val (l : List UInt8) (most : Int) : numA l most = numD l most := by
  unfold numA numD
  cases hd : l.all digC with
  | false => simp
  | true =>
    rw [if_pos rfl]
    cases l with
    | nil => rfl
    | cons c r =>
      by_cases h9 : (c :: r).length ≤ 9
      · have h10 : 10 ^ (c :: r).length ≤ 1000000000000000000 := Nat.le_trans (Nat.pow_le_pow_right (by omega) h9) (by decide)
        have hv := pu_val (c :: r) 0 hd (by rw [Nat.zero_add, Nat.one_mul]; exact h10)
        have hlt := valF_le hd h9
        have e9 : (10 : Nat) ^ 9 = 1000000000 := by decide
        rw [e9] at hlt
        have hc : 48 ≤ c.toNat ∧ c.toNat ≤ 57 := by rw [List.all_cons, Bool.and_eq_true] at hd; exact digC_bd hd.1
        have ha : atoiAll (c :: r) = .ok ((valF 0 (c :: r) : Nat) : Int) := by
          rw [atoiAll_plain c r (by omega) (by omega), parseMag, if_neg (by simp), hv, signless, if_neg (by omega)]
        rw [ha]
        simp only
        unfold numV
        by_cases hm : most < (valF 0 (c :: r) : Int)
        · rw [if_pos (.inr hm), if_neg (by omega)]
        · rw [if_neg (by omega), if_pos ⟨by simp, h9, trivial, by omega⟩]
      · rw [if_neg (by omega)]
        split
        · unfold numV
          rw [if_pos (.inl (by omega))]
        · rfl
end Go.Proofs.YtammhfnolafknaaDoor
