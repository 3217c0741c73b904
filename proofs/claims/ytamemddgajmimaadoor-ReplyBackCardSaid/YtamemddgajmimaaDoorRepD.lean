/- Replies: the reference's digits of a number of three; ReplyCodes' walk. -/
import Derived.Test.YtamemddgajmimaaDoorRepNext
import Derived.Test.YtamemddgajmimaaDoorRowW
set_option linter.unusedVariables false
set_option linter.unusedSimpArgs false
namespace Go.Proofs.YtamemddgajmimaaDoor
open Go.RowKit Go.Shelf

theorem digit_cut : ∀ a : Fin 10, (⟨#[48, 49, 50, 51, 52, 53, 54, 55, 56, 57]⟩ : ByteArray).extract a.val (a.val + 1) = strB [UInt8.ofNat (48 + a.val)] := by decide +kernel
def dgt (a : Nat) : UInt8 := UInt8.ofNat (48 + a)
theorem digit_cut' (a : Nat) (h : a < 10) : (⟨#[48, 49, 50, 51, 52, 53, 54, 55, 56, 57]⟩ : ByteArray).extract a (a + 1) = strB [dgt (a)] := digit_cut ⟨a, h⟩
/-- Behind so many rounds: what is left of the number, what has been spelt. -/
def Dg3 (n gk : Nat) (w0 : World) (v3 v4 v5 : Value) (wr : World) : Prop :=
  wr = w0 ∧ ((gk = 3 ∧ v3 = .int .u64 (n : Int) ∧ v4 = .string (strB []) ∧ v5 = .int .i64 ((0 : Nat) : Int)) ∨ (gk = 2 ∧ v3 = .int .u64 ((n / 10 : Nat) : Int) ∧ v4 = .string (strB [dgt (n % 10)]) ∧ v5 = .int .i64 ((1 : Nat) : Int)) ∨
    (gk = 1 ∧ v3 = .int .u64 ((n / 100 : Nat) : Int) ∧ v4 = .string (strB [dgt (n / 10 % 10), dgt (n % 10)]) ∧ v5 = .int .i64 ((2 : Nat) : Int)))
set_option maxHeartbeats 2000000 in
set_option maxRecDepth 100000 in
theorem digits_calls (w : World) (n : Nat) (h1 : 100 ≤ n) (h2 : n < 1000) :
    Calls Tryd.prog 16 #[.int .i64 (n : Int)] w fun en w' => en = .returned (.string (strB (dig3 n))) ∧ w' = w := by
  have hneg : ¬ ((n : Int) < 0) := by omega
  go_enter Tryd.func16, Tryd.ntmps16
  go_wp2_with fail
  go_loopg [3, 4, 5] 3 (fun gk v3 v4 v5 wr => Dg3 n gk w v3 v4 v5 wr)
  case atStart => exact ⟨rfl, .inl ⟨rfl, rfl, rfl, rfl⟩⟩
  case round =>
    obtain ⟨rfl, hcase⟩ := hrel
    rcases hcase with ⟨rfl, rfl, rfl, rfl⟩ | ⟨rfl, rfl, rfl, rfl⟩ | ⟨rfl, rfl, rfl, rfl⟩
    · have e := digit_cut' (n % 10) (by omega)
      have e2 : strB [dgt (n % 10)] ++ strB [] = strB [dgt (n % 10)] := by rw [strB_app]; rfl
      have hz : ((n : Int) / 10 == 0) = false := by rw [beq_eq_false_iff_ne]; omega
      go_wp2_with fail
      go_roundg 2
      case measure => omega
      case rel => exact ⟨rfl, .inr (.inl ⟨rfl, rfl, congrArg Value.string e2, rfl⟩)⟩
    · have e := digit_cut' (n / 10 % 10) (by omega)
      have e2 : strB [dgt (n / 10 % 10)] ++ strB [dgt (n % 10)] = strB [dgt (n / 10 % 10), dgt (n % 10)] := by rw [strB_app]; rfl
      obtain ⟨k, hk⟩ : ∃ k, n / 10 = k := ⟨_, rfl⟩
      have hk1 : 10 ≤ k := by omega
      have hk2 : k < 100 := by omega
      have hk3 : n / 100 = k / 10 := by omega
      rw [hk] at e e2
      have HK := Lib.hid hk
      have HK3 := Lib.hid hk3
      have hz : ((k : Int) / 10 == 0) = false := by rw [beq_eq_false_iff_ne]; omega
      rw [hk]
      clear hk hk3
      go_wp2_with fail
      go_roundg 1
      case measure => omega
      case rel => exact ⟨rfl, .inr (.inr ⟨rfl, by rw [HK3.out]; rfl, by first | (rw [HK.out]; exact congrArg Value.string e2) | rw [HK.out], rfl⟩)⟩
    · have e := digit_cut' (n / 100) (by omega)
      have e2 : strB [dgt (n / 100)] ++ strB [dgt (n / 10 % 10), dgt (n % 10)] = strB (dig3 n) := by rw [strB_app]; rfl
      obtain ⟨k, hk⟩ : ∃ k, n / 100 = k := ⟨_, rfl⟩
      have hk1 : 1 ≤ k := by omega
      have hk2 : k < 10 := by omega
      rw [hk] at e e2
      have hz : ((k : Int) / 10 == 0) = true := by rw [beq_iff_eq]; omega
      have hm : (k : Int) % 10 = (k : Int) := by omega
      have hm' : k % 10 = k := by omega
      rw [hk]
      clear hk
      go_wp2_with fail
      go_ret
      exact ⟨rfl, rfl⟩
end Go.Proofs.YtamemddgajmimaaDoor
