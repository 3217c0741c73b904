/- A step of the sum. -/
import Derived.Test.YthnebhnlkjkcmaaDoorStp0
import Derived.Test.YthnebhnlkjkcmaaDoorStp1
import Derived.Test.YthnebhnlkjkcmaaDoorStp2
import Derived.Test.YthnebhnlkjkcmaaDoorStp3
set_option linter.unusedVariables false
set_option linter.unusedSimpArgs false
namespace Go.Proofs.YthnebhnlkjkcmaaDoor
open Go.RowKit

theorem step_calls (w : World) (i : Nat) (hi : i < 64) (s : S4) (m : Nat → BitVec 32) (gm : Nat) (hm : ∀ g, g < 16 → w.cell? ⟨gm, g, none⟩ = some (.int .u32 (U (m g)))) (hC : SinC w) :
    Calls Tryd.prog 64 #[vS4 s, .int .i64 (i : Int), .pointer (some ⟨gm, 0, none⟩)] w fun en w' => en = .returned (vS4 (stepP m i s)) ∧ Kept w w' NoB := by
  have hsn : ∀ W, Kept w W NoB → Calls Tryd.prog 73 #[.int .i64 (i : Int)] W fun en w' => en = .returned (.int .u32 (U (BitVec.ofNat 32 (sineN i)))) ∧ W = w' := fun W hk => by
    rw [U_ofNat (sineN_lt ⟨i, hi⟩)]
    exact sine_calls W i hi (hC.kept0 hk)
  have htb := turnAt_bd ⟨i, hi⟩
  obtain ⟨a, b, c, d⟩ := s
  have hrt : ∀ W, Calls Tryd.prog 74 #[.int .u32 (U (((a + fP (i / 16) b c d) + BitVec.ofNat 32 (sineN i)) + m (gP i))), .int .i64 ((turnAt i : Nat) : Int)] W fun en w' => en = .returned (.int .u32 (U ((((a + fP (i / 16) b c d) + BitVec.ofNat 32 (sineN i)) + m (gP i)).rotateLeft (turnAt i)))) ∧ W = w' := fun W => rot_calls W _ _ htb.1 htb.2
  have hs1 := add_U a (fP (i / 16) b c d)
  have hs2 := add_U (a + fP (i / 16) b c d) (BitVec.ofNat 32 (sineN i))
  have hs3 := add_U ((a + fP (i / 16) b c d) + BitVec.ofNat 32 (sineN i)) (m (gP i))
  have hnb := add_U b ((((a + fP (i / 16) b c d) + BitVec.ofNat 32 (sineN i)) + m (gP i)).rotateLeft (turnAt i))
  have hgl : gP i < 16 := by unfold gP; split <;> (try split) <;> (try split) <;> omega
  rcases (show i / 16 = 0 ∨ i / 16 = 1 ∨ i / 16 = 2 ∨ i / 16 = 3 by omega) with hq | hq | hq | hq
  · have hf : fP (i / 16) b c d = d ^^^ (b &&& (c ^^^ d)) := by rw [hq]; rfl
    rw [hf] at hs1 hs2 hs3 hnb hrt
    have hg : gP i = i % 16 := by unfold gP; rw [if_pos hq]
    have := step_q0 w i (by omega) (U a) (U b) (U c) (U d) _ _ _ _ _ _ _ _ _ _ _ gm (gP i) (xor_U c d) (and_U b _) (xor_U d _) hs1 hs2 hs3 hnb hsn hrt (hm _ hgl) (by rw [hg]; omega) hgl rfl
    rw [← hf] at this
    exact this
  · have hf : fP (i / 16) b c d = c ^^^ (d &&& (b ^^^ c)) := by rw [hq]; rfl
    rw [hf] at hs1 hs2 hs3 hnb hrt
    have hg : gP i = (5 * i + 1) % 16 := by unfold gP; rw [if_neg (by omega), if_pos hq]
    have := step_q1 w i (by omega) (U a) (U b) (U c) (U d) _ _ _ _ _ _ _ _ _ _ _ gm (gP i) (xor_U b c) (and_U d _) (xor_U c _) hs1 hs2 hs3 hnb hsn hrt (hm _ hgl) (by rw [hg]; omega) hgl rfl
    rw [← hf] at this
    exact this
  · have hf : fP (i / 16) b c d = (b ^^^ c) ^^^ d := by rw [hq]; rfl
    rw [hf] at hs1 hs2 hs3 hnb hrt
    have hg : gP i = (3 * i + 5) % 16 := by unfold gP; rw [if_neg (by omega), if_neg (by omega), if_pos hq]
    have := step_q2 w i (by omega) (U a) (U b) (U c) (U d) _ _ 0 _ _ _ _ _ _ _ _ gm (gP i) (xor_U b c) (xor_U _ d) hs1 hs2 hs3 hnb hsn hrt (hm _ hgl) (by rw [hg]; omega) hgl rfl
    rw [← hf] at this
    exact this
  · have hf : fP (i / 16) b c d = c ^^^ (b ||| ~~~d) := by rw [hq]; rfl
    rw [hf] at hs1 hs2 hs3 hnb hrt
    have hg : gP i = (7 * i) % 16 := by unfold gP; rw [if_neg (by omega), if_neg (by omega), if_neg (by omega)]
    have := step_q3 w i (by omega) (U a) (U b) (U c) (U d) _ _ _ _ _ _ _ _ _ _ _ gm (gP i) (notM_U d) (or_U b _) (xor_U c _) hs1 hs2 hs3 hnb hsn hrt (hm _ hgl) (by rw [hg]; omega) hgl rfl
    rw [← hf] at this
    exact this
end Go.Proofs.YthnebhnlkjkcmaaDoor
