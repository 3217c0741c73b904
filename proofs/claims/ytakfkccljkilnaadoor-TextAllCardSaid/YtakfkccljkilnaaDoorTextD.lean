/- Texts: numbers and their digits: plain laws. -/
import Derived.Test.YtakfkccljkilnaaDoorTextN2
import Derived.Lib.ItoaNum
import Derived.Lib.ItoaLen
import Derived.Lib.ItoaMem
import Derived.Lib.AtoiAllCases
set_option linter.unusedVariables false
set_option linter.unusedSimpArgs false
namespace Go.Proofs.YtakfkccljkilnaaDoor
open Go.RowKit Go.Lib

theorem pu_snoc (c : UInt8) : ∀ (l : List UInt8) (acc v : Nat), parseUint10 acc l = .ok v → parseUint10 acc (l ++ [c]) = parseUint10 v [c]
  | [], acc, v, h => by
    simp only [parseUint10] at h
    injection h with h
    rw [h]
    rfl
  | x :: l, acc, v, h => by
    rw [List.cons_append]
    rw [parseUint10] at h ⊢
    split at h
    · rename_i h1
      rw [if_pos h1]
      split at h
      · cases h
      · rename_i h2
        rw [if_neg h2]
        split at h
        · cases h
        · rename_i h3
          rw [if_neg h3]
          exact pu_snoc c l _ v h
    · cases h
theorem dig_nat {d : Nat} (h : d < 10) : (UInt8.ofNat (48 + d)).toNat = 48 + d := by
  simp
  omega
theorem pu_one {acc d : Nat} (hd : d < 10) (h1 : acc < 1844674407370955162) (h2 : acc * 10 + d < 18446744073709551616) : parseUint10 acc [UInt8.ofNat (48 + d)] = .ok (acc * 10 + d) := by
  rw [parseUint10, dig_nat hd, if_pos ⟨by omega, by omega⟩, if_neg (by omega), if_neg (by omega)]
  rw [show 48 + d - 48 = d by omega]
  rfl
theorem pu_dec : ∀ (n u : Nat), u ≤ n → u < 18446744073709551616 → parseUint10 0 (decDigits u) = .ok u := by
  intro n
  induction n with
  | zero =>
    intro u hu _
    obtain rfl : u = 0 := by omega
    rw [decDigits_one (by omega)]
    exact pu_one (acc := 0) (d := 0) (by omega) (by omega) (by omega)
  | succ n ih =>
    intro u hu hlt
    by_cases h : u < 10
    · rw [decDigits_one h]
      have := pu_one (acc := 0) (d := u) h (by omega) (by omega)
      rwa [Nat.zero_mul, Nat.zero_add] at this
    · rw [decDigits, dif_neg h, pu_snoc _ _ _ _ (ih (u / 10) (by omega) (by omega)), pu_one (by omega) (by omega) (by omega)]
      congr 1
      omega
theorem pu_zeros (l : List UInt8) : ∀ k : Nat, parseUint10 0 (List.replicate k 48 ++ l) = parseUint10 0 l
  | 0 => rfl
  | k + 1 => by
    rw [List.replicate_succ, List.cons_append, parseUint10, if_pos ⟨by decide, by decide⟩, if_neg (by decide), if_neg (by decide)]
    exact pu_zeros l k
theorem dec_ne (u : Nat) : decDigits u ≠ [] := by
  intro e
  have h := congrArg List.length e
  rw [decDigits_length] at h
  have := nDigits_pos u
  simp at h
  omega
theorem dec_digs : ∀ (n u : Nat), u ≤ n → ∀ x ∈ decDigits u, digC x = true := by
  intro n
  induction n with
  | zero =>
    intro u hu x hx
    obtain rfl : u = 0 := by omega
    rw [decDigits_one (by omega), List.mem_singleton] at hx
    rw [hx]
    decide
  | succ n ih =>
    intro u hu x hx
    by_cases h : u < 10
    · rw [decDigits_one h, List.mem_singleton] at hx
      rw [hx]
      unfold digC
      rw [dig_nat h]
      simp
      omega
    · rw [decDigits, dif_neg h, List.mem_append, List.mem_singleton] at hx
      rcases hx with hx | hx
      · exact ih (u / 10) (by omega) x hx
      · rw [hx]
        unfold digC
        rw [dig_nat (by omega)]
        simp
        omega
theorem nDigits_le : ∀ (k u : Nat), 1 ≤ k → u < 10 ^ k → nDigits u ≤ k
  | 0, u, h, _ => by omega
  | k + 1, u, _, h => by
    by_cases h1 : u < 10
    · rw [nDigits_small h1]; omega
    · rw [nDigits_big h1]
      have hk : 1 ≤ k := by
        rcases Nat.eq_zero_or_pos k with h0 | h0
        · subst h0; simp at h; omega
        · exact h0
      have := nDigits_le k (u / 10) hk (by rw [Nat.pow_succ] at h; omega)
      omega
theorem nDigits_nine (u : Nat) : nDigits u ≤ 9 ↔ u < 1000000000 := by
  constructor
  · intro h
    have h1 := lt_pow_nDigits u
    have h2 : 10 ^ nDigits u ≤ 10 ^ 9 := Nat.pow_le_pow_right (by omega) h
    omega
  · intro h
    exact nDigits_le 9 u (by omega) (by omega)
/-- Noughts ahead of a number's digits: the number. -/
theorem atoi_zeros (k u : Nat) (hu : u < 9223372036854775808) : atoiAll (List.replicate k 48 ++ decDigits u) = .ok (u : Int) := by
  have hall : ∀ x ∈ List.replicate k (48 : UInt8) ++ decDigits u, digC x = true := by
    intro x hx
    rcases List.mem_append.1 hx with h | h
    · rw [(List.mem_replicate.1 h).2]; decide
    · exact dec_digs u u (Nat.le_refl _) x h
  have hp : parseMag (List.replicate k 48 ++ decDigits u) = .ok u := by
    unfold parseMag
    rw [if_neg (by
      intro e
      have := congrArg List.length e
      have h2 := dec_ne u
      cases hd : decDigits u with
      | nil => exact h2 hd
      | cons a r => rw [hd] at this; simp at this), pu_zeros, pu_dec u u (Nat.le_refl _) (by omega)]
  cases hl : List.replicate k 48 ++ decDigits u with
  | nil =>
    have h2 := dec_ne u
    have := congrArg List.length hl
    cases hd : decDigits u with
    | nil => exact absurd hd h2
    | cons a r => rw [hd] at this; simp at this
  | cons c r =>
    have hc := hall c (by rw [hl]; simp)
    unfold digC at hc
    simp only [decide_eq_true_eq] at hc
    rw [atoiAll_plain c r (by omega) (by omega), ← hl, hp]
    show (if 9223372036854775808 ≤ u then NumEnd.range else NumEnd.ok (u : Int)) = _
    rw [if_neg (by omega)]
theorem all_zeros (k u : Nat) : (List.replicate k (48 : UInt8) ++ decDigits u).all digC = true := by
  rw [List.all_eq_true]
  intro x hx
  rcases List.mem_append.1 hx with h | h
  · rw [(List.mem_replicate.1 h).2]; decide
  · exact dec_digs u u (Nat.le_refl _) x h
theorem all_minus (k : Nat) (l : List UInt8) : (List.replicate k (48 : UInt8) ++ 45 :: l).all digC = false := by
  rw [List.all_eq_false]
  exact ⟨45, by simp, by decide⟩
end Go.Proofs.YtakfkccljkilnaaDoor
