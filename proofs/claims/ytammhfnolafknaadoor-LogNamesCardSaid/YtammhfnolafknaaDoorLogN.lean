/- Transcripts: the names of outcomes: what the program computes. -/
import Derived.Test.YtammhfnolafknaaDoorLogW
set_option linter.unusedVariables false
set_option linter.unusedSimpArgs false
namespace Go.Proofs.YtammhfnolafknaaDoor
open Go.RowKit Go.Shelf Go.Lib Go.Sort

/-! ### Names -/
def namesL : List (List UInt8) := [[108, 105, 110, 101], [108, 111, 110, 103], [114, 101, 112, 108, 121], [98, 97, 100], [110, 111, 98, 111, 100, 121], [99, 108, 111, 115, 101, 100], [114, 101, 115, 101, 116], [116, 105, 109, 101, 111, 117, 116], [97, 117, 116, 104], [99, 111, 110, 110, 101, 99, 116], [97, 100, 100, 114], [116, 111, 111, 45, 108, 97, 114, 103, 101], [102, 117, 108, 108], [102, 117, 101, 108], [101, 118, 101, 110, 116, 115]]
def nameL (n : Int) : List UInt8 := if n = 0 then [111, 107] else if n = 11 then [116, 101, 120, 116] else if n = 32 then [117, 110, 107, 110, 111, 119, 110] else if 60 ≤ n ∧ n ≤ 74 then namesL.getD (n - 60).toNat [] else []
def knownN (n : Int) : Bool := decide (n = 0 ∨ n = 11 ∨ n = 32 ∨ (60 ≤ n ∧ n ≤ 74))
theorem known_18 {n : Int} (h : knownN n = true) : n = 0 ∨ n = 11 ∨ n = 32 ∨ n = 60 ∨ n = 61 ∨ n = 62 ∨ n = 63 ∨ n = 64 ∨ n = 65 ∨ n = 66 ∨ n = 67 ∨ n = 68 ∨ n = 69 ∨ n = 70 ∨ n = 71 ∨ n = 72 ∨ n = 73 ∨ n = 74 := by
  unfold knownN at h
  simp only [decide_eq_true_eq] at h
  omega
theorem name_ne {n : Int} (h : knownN n = true) : nameL n ≠ [] := by
  rcases known_18 h with h | h | h | h | h | h | h | h | h | h | h | h | h | h | h | h | h | h <;> (subst h; decide)
theorem name_no {n : Int} (h : knownN n = false) : nameL n = [] := by
  unfold knownN at h
  simp only [decide_eq_false_iff_not, not_or] at h
  unfold nameL
  rw [if_neg h.1, if_neg h.2.1, if_neg h.2.2.1, if_neg h.2.2.2]
def tagN (n : Int) : Int := n
theorem name_inj {a b : Int} (ha : knownN a = true) (h : nameL a = nameL b) : a = b := by
  have hb : knownN b = true := by
    cases hk : knownN b with
    | true => rfl
    | false => rw [name_no hk] at h; exact absurd h (name_ne ha)
  have inv : ∀ n, knownN n = true → ([(0 : Int), 11, 32, 60, 61, 62, 63, 64, 65, 66, 67, 68, 69, 70, 71, 72, 73, 74].find? fun m => nameL m == nameL n) = some n := by
    intro n hn
    rcases known_18 hn with h | h | h | h | h | h | h | h | h | h | h | h | h | h | h | h | h | h <;> (subst h; decide +kernel)
  have h1 := inv a ha
  have h2 := inv b hb
  rw [h] at h1
  rw [h1] at h2
  exact Option.some.inj h2
set_option maxHeartbeats 8000000 in
set_option maxRecDepth 100000 in
theorem name_calls (w : World) (n : Int) (h0 : -9223372036854775808 ≤ n) (h1 : n ≤ 9223372036854775807) :
    Calls Tryd.prog 11 #[.int .i64 n] w fun en w' => en = .returned (.string (strB (nameL n))) ∧ Kept w w' NoB := by
  obtain ⟨res, hres⟩ : ∃ r, nameL n = r := ⟨_, rfl⟩
  rw [hres]
  have HR := Lib.hid hres
  clear hres
  cases hk : knownN n with
  | true =>
    rcases known_18 hk with h | h | h | h | h | h | h | h | h | h | h | h | h | h | h | h | h | h
    all_goals
      subst h
      have hr := HR.out
      simp only [nameL, namesL] at hr
      have HR2 : Hid (strB (nameL _) = strB res) := congrArg strB HR.out
      clear hr hk HR
      go_enter Tryd.func11, Tryd.ntmps11
      go_wp2_with fail
      go_ret
      exact ⟨by rw [← HR2.out]; rfl, (Kept.refl _ _).alloc _⟩
  | false =>
    have hr : res = [] := by rw [← HR.out, name_no hk]
    unfold knownN at hk
    simp only [decide_eq_false_iff_not, not_or] at hk
    have t0 : (n == 0) = false := beq_eq_false_iff_ne.2 hk.1
    have t1 : (n == 11) = false := beq_eq_false_iff_ne.2 hk.2.1
    have t2 : (n == 32) = false := beq_eq_false_iff_ne.2 hk.2.2.1
    have hk4 := hk.2.2.2
    subst hr
    clear hk
    by_cases h6 : 60 ≤ n
    · have h7 : ¬ n - 60 < 15 := by omega
      clear HR hk4
      go_enter Tryd.func11, Tryd.ntmps11
      go_wp2_with fail
      go_ret
      exact ⟨rfl, (Kept.refl _ _).alloc _⟩
    · have h7 : decide (60 ≤ n) = false := decide_eq_false h6
      clear HR hk4
      go_enter Tryd.func11, Tryd.ntmps11
      go_wp2_with fail
      go_ret
      exact ⟨rfl, (Kept.refl _ _).alloc _⟩
end Go.Proofs.YtammhfnolafknaaDoor
