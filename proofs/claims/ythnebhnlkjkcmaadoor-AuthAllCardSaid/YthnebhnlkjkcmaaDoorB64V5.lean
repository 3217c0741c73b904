/- The reference's value and letter. -/
import Derived.Test.YthnebhnlkjkcmaaDoorPut
import Derived.Test.YthnebhnlkjkcmaaDoorShT
set_option linter.unusedVariables false
set_option linter.unusedSimpArgs false
namespace Go.Proofs.YthnebhnlkjkcmaaDoor
open Go.RowKit

/-- What a letter stands for; 64: it is none. -/
def val (b : UInt8) : Nat :=
  if 65 ≤ b.toNat ∧ b.toNat ≤ 90 then b.toNat - 65
  else if 97 ≤ b.toNat ∧ b.toNat ≤ 122 then b.toNat - 71
  else if 48 ≤ b.toNat ∧ b.toNat ≤ 57 then b.toNat + 4
  else if b.toNat = 43 then 62 else if b.toNat = 47 then 63 else 64
def valI (b : UInt8) : Int := if val b < 64 then (val b : Int) else -1
theorem val_le (b : UInt8) : val b ≤ 64 := by
  unfold val
  repeat' split
  all_goals omega
theorem val_al : ∀ v < 64, val (al v) = v := by decide
theorem index_all : ∀ n < 256, Lib.indexByte alphaL (UInt8.ofNat n) = valI (UInt8.ofNat n) := by decide +kernel
theorem index_val (b : UInt8) : Lib.indexByte alphaL b = valI b := by
  have := index_all b.toNat b.toNat_lt
  simpa using this

set_option maxHeartbeats 2000000 in
theorem value_calls (w : World) (b : UInt8) (x : Nat) (hx : b.toNat = x) :
    Calls Tryd.prog 44 #[.int .u8 (x : Int)] w fun en w' => en = .returned (.int .i64 (valI b)) ∧ w' = w := by
  have h8 : x < 256 := by rw [← hx]; exact b.toNat_lt
  have hv : valI b = if 65 ≤ x ∧ x ≤ 90 then (x : Int) - 65 else if 97 ≤ x ∧ x ≤ 122 then (x : Int) - 97 + 26 else if 48 ≤ x ∧ x ≤ 57 then (x : Int) - 48 + 52 else if x = 43 then 62 else if x = 47 then 63 else -1 := by
    unfold valI val
    rw [hx]
    repeat' split
    all_goals omega
  clear hx
  obtain ⟨r, hr⟩ : ∃ r, valI b = r := ⟨_, rfl⟩
  rw [hr] at hv ⊢
  clear hr
  go_enter Tryd.func44, Tryd.ntmps44
  by_cases h1 : 65 ≤ x ∧ x ≤ 90
  · rw [if_pos h1] at hv
    have t1 : (65 : Int) ≤ (x : Int) := by omega
    have t2 : (x : Int) ≤ 90 := by omega
    subst hv
    go_wp2
    go_ret
    exact ⟨rfl, rfl⟩
  rw [if_neg h1] at hv
  by_cases h2 : 97 ≤ x ∧ x ≤ 122
  · rw [if_pos h2] at hv
    have t1 : (65 : Int) ≤ (x : Int) := by omega
    have t2 : ¬ ((x : Int) ≤ 90) := by omega
    have t3 : (97 : Int) ≤ (x : Int) := by omega
    have t4 : (x : Int) ≤ 122 := by omega
    subst hv
    go_wp2
    go_ret
    exact ⟨rfl, rfl⟩
  rw [if_neg h2] at hv
  by_cases h3 : 48 ≤ x ∧ x ≤ 57
  · rw [if_pos h3] at hv
    have t1 : ¬ ((65 : Int) ≤ (x : Int)) := by omega
    have t3 : ¬ ((97 : Int) ≤ (x : Int)) := by omega
    have t4 : (48 : Int) ≤ (x : Int) := by omega
    have t5 : (x : Int) ≤ 57 := by omega
    subst hv
    go_wp2
    go_ret
    exact ⟨rfl, rfl⟩
  rw [if_neg h3] at hv
  have c1 : ((65 : Int) ≤ (x : Int)) → ¬ ((x : Int) ≤ 90) := by omega
  have c2 : ((97 : Int) ≤ (x : Int)) → ¬ ((x : Int) ≤ 122) := by omega
  have c3 : ((48 : Int) ≤ (x : Int)) → ¬ ((x : Int) ≤ 57) := by omega
  have C := Lib.hid (And.intro c1 (And.intro c2 c3))
  have H := Lib.hid (And.intro h1 (And.intro h2 h3))
  clear c1 c2 c3 h1 h2 h3
  by_cases h4 : x = 43
  · rw [if_pos h4] at hv
    subst h4 hv
    go_wp2
    go_ret
    exact ⟨rfl, rfl⟩
  rw [if_neg h4] at hv
  by_cases h5 : x = 47
  · rw [if_pos h5] at hv
    subst h5 hv
    go_wp2
    go_ret
    exact ⟨rfl, rfl⟩
  rw [if_neg h5] at hv
  subst hv
  have e4 : ((x : Int) == 43) = false := by simp; omega
  have e5 : ((x : Int) == 47) = false := by simp; omega
  clear h4 h5
  rcases Nat.lt_or_ge x 48 with k1 | k1
  · have t1 : ¬ ((65 : Int) ≤ (x : Int)) := by omega
    have t3 : ¬ ((97 : Int) ≤ (x : Int)) := by omega
    have t4 : ¬ ((48 : Int) ≤ (x : Int)) := by omega
    go_wp2
    go_ret
    exact ⟨rfl, rfl⟩
  rcases Nat.lt_or_ge x 65 with k2 | k2
  · have t1 : ¬ ((65 : Int) ≤ (x : Int)) := by omega
    have t3 : ¬ ((97 : Int) ≤ (x : Int)) := by omega
    have t4 : (48 : Int) ≤ (x : Int) := by omega
    have t5 : ¬ (x : Int) ≤ 57 := by have := C.out; omega
    go_wp2
    go_ret
    exact ⟨rfl, rfl⟩
  rcases Nat.lt_or_ge x 97 with k3 | k3
  · have t1 : (65 : Int) ≤ (x : Int) := by omega
    have t2 : ¬ ((x : Int) ≤ 90) := by have := C.out; omega
    have t3 : ¬ ((97 : Int) ≤ (x : Int)) := by omega
    have t4 : (48 : Int) ≤ (x : Int) := by omega
    have t5 : ¬ (x : Int) ≤ 57 := by omega
    go_wp2
    go_ret
    exact ⟨rfl, rfl⟩
  · have t1 : (65 : Int) ≤ (x : Int) := by omega
    have t2 : ¬ ((x : Int) ≤ 90) := by omega
    have t3 : (97 : Int) ≤ (x : Int) := by omega
    have t6 : ¬ (x : Int) ≤ 122 := by have := C.out; omega
    have t4 : (48 : Int) ≤ (x : Int) := by omega
    have t5 : ¬ (x : Int) ≤ 57 := by omega
    go_wp2
    go_ret
    exact ⟨rfl, rfl⟩

theorem alpha_extract : ∀ n < 64, (strB alphaL).extract n (n + 1) = strB [al n] := by decide +kernel
set_option maxHeartbeats 1000000 in
theorem letter_calls (w : World) (n : Nat) (h : n < 64) :
    Calls Tryd.prog 45 #[.int .i64 (n : Int)] w fun en w' => en = .returned (.string (strB [al n])) ∧ w' = w := by
  have he := alpha_extract n h
  have HE := Lib.hid he
  clear he
  go_enter Tryd.func45, Tryd.ntmps45
  go_wp2
  go_ret
  exact ⟨by rw [← HE.out]; rfl, rfl⟩
end Go.Proofs.YthnebhnlkjkcmaaDoor
