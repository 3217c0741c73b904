/- The walk of FrameLong: for any two bytes the law returns true and leaves what was there. -/
import Derived.Test.YtccggeliajbfaaaFrame2
namespace Go.Proofs.Ytccggeliajbfaaa
open Go.RowKit

def longL (m k : Nat) : List UInt8 := if k ≤ m then List.replicate k 120 else []
def longE (m k : Nat) : Int := if k ≤ m then 0 else 61
theorem long_step (m k : Nat) : putF m [120] (longL m k) false (longE m k) = ([], longL m (k + 1), false, longE m (k + 1)) := by
  unfold longL longE
  rcases Nat.lt_trichotomy k m with h | h | h
  · rw [if_pos (by omega), if_pos (by omega), if_pos (by omega), if_pos (by omega)]
    simp [putF]
    rw [if_neg (by omega)]
    simp [List.replicate_succ']
  · subst h
    rw [if_pos (Nat.le_refl _), if_pos (Nat.le_refl _), if_neg (by omega), if_neg (by omega)]
    simp [putF]
  · rw [if_neg (by omega), if_neg (by omega), if_neg (by omega), if_neg (by omega)]
    simp [putF]
theorem longL_le (m k : Nat) : (longL m k).length ≤ k := by
  unfold longL
  split <;> simp

def LongR (w0 : World) (m n g : Nat) (gk : Nat) (i : Value) (wr : World) : Prop :=
  ∃ k F, k ≤ n ∧ gk = n - k ∧ i = .int .i64 (k : Int) ∧ Fr wr F g (longL m k) false m (longE m k) ∧ (∀ b, F b → w0.heap.size ≤ b) ∧ Kept w0 wr NoB

set_option maxHeartbeats 1000000 in
set_option maxRecDepth 100000 in
theorem long_calls (m n : Nat) (hm : m ≤ 255) (hn : n ≤ 255) (w : World) :
    Calls Try.prog 3 #[.int .u8 (m : Int), .int .u8 (n : Int)] w fun en w' => en = .returned (.bool true) ∧ Kept w w' NoB := by
  have kc := fun (w : World) (C : Array Value) (n c : Nat) => Lib.run_convert_bytes_const (P := Try.prog) w 29 5 C n c Try.underlying29 Try.underlying5
  go_enter Try.func3, Try.ntmps3
  go_wp2_with fail
  refine (shown_calls _).mono ?_
  rintro en w1 ⟨rfl, hk1⟩
  go_wp2_with fail
  refine (new_calls _ _).mono ?_
  rintro en w2 ⟨g, F, rfl, hf, hF, hk2⟩
  rw [show max (m : Int) 0 = m by omega] at hf
  go_wp2_with fail
  go_loopg [7] n (fun gk i wr => LongR w m n g gk i wr)
  case atStart => exact ⟨0, F, Nat.zero_le _, rfl, rfl, hf, fun b hb => Nat.le_trans hk1.size (hF b hb), hk1.trans' hk2⟩
  case round =>
    obtain ⟨k, F, hk, hgk, rfl, hf, hF, hkp⟩ := hrel
    have hgk' := Lib.hid hgk
    clear hgk
    have hle := longL_le m k
    by_cases hlt : k < n
    · by_cases hkm : k < m
      · have he : Hid (longE m (k + 1) = 0) := if_pos hkm
        go_wp2_with fail
        refine (put_lit (bs := [120]) hf rfl 1 1 rfl (by omega) (long_step m k)).mono ?_
        rintro en w3 ⟨v, F3, rfl, hv, hf3, hF3, hk3⟩
        rw [he.out]
        go_wp2_with fail
        go_roundg (n - (k + 1))
        case measure => have := hgk'.out; omega
        case rel => exact ⟨k + 1, F3, hlt, rfl, by go_num, hf3, fun b hb => (hF3 b hb).elim (hF b) (Nat.le_trans hkp.size), hkp.trans hk3 fun b hb => .inr (hF b hb)⟩
      · have he : Hid (longE m (k + 1) = 61) := if_neg (by omega)
        have hkm' : decide (m ≤ k) = true := decide_eq_true (by omega)
        go_wp2_with fail
        refine (put_lit (bs := [120]) hf rfl 1 1 rfl (by omega) (long_step m k)).mono ?_
        rintro en w3 ⟨v, F3, rfl, hv, hf3, hF3, hk3⟩
        rw [he.out]
        go_wp2_with fail
        go_roundg (n - (k + 1))
        case measure => have := hgk'.out; omega
        case rel => exact ⟨k + 1, F3, hlt, rfl, by go_num, hf3, fun b hb => (hF3 b hb).elim (hF b) (Nat.le_trans hkp.size), hkp.trans hk3 fun b hb => .inr (hF b hb)⟩
    · obtain rfl : k = n := by omega
      by_cases hkm : m < k
      · have p1 : putF m [13] (longL m k) false (longE m k) = ([], [], false, 61) := by
          unfold longL longE
          rw [if_neg (by omega), if_neg (by omega)]
          simp [putF]
        have p2 : putF m [10] [] false 61 = ([], [], false, 61) := by simp [putF]
        have P := Lib.hid (And.intro p1 p2)
        clear p1 p2
        go_wp2_with fail
        refine (put_lit (bs := [13]) hf rfl 1 1 rfl (by omega) P.out.1).mono ?_
        rintro en w3 ⟨v, F3, rfl, hv, hf3, hF3, hk3⟩
        go_wp2_with fail
        refine (put_lit (bs := [10]) hf3 rfl 1 1 rfl (by simp) P.out.2).mono ?_
        rintro en w4 ⟨v4, F4, rfl, hv4, hf4, hF4, hk4⟩
        go_wp2_with fail
        go_ret
        exact ⟨rfl, hkp.trans (hk3.trans hk4 hF3) fun b hb => .inr (hF b hb)⟩
      · have p1 : putF m [13] (longL m k) false (longE m k) = ([], longL m k, true, 0) := by
          unfold longL longE
          rw [if_pos (by omega), if_pos (by omega)]
          simp [putF]
        have p2 : putF m [10] (longL m k) true 0 = ([longL m k], [], false, 0) := by simp [putF]
        have p3 : (longL m k).length = k := by unfold longL; rw [if_pos (by omega)]; simp
        have P := Lib.hid (And.intro p1 (And.intro p2 p3))
        clear p1 p2 p3
        go_wp2_with fail
        refine (put_lit (bs := [13]) hf rfl 1 1 rfl (by omega) P.out.1).mono ?_
        rintro en w3 ⟨v, F3, rfl, hv, hf3, hF3, hk3⟩
        obtain ⟨A3, c3, rfl, _, hr3⟩ := hv.readsN (n := 0) rfl
        go_wp2_with fail
        refine (put_lit (bs := [10]) hf3 rfl 1 1 rfl (by omega) P.out.2.1).mono ?_
        rintro en w4 ⟨v4, F4, rfl, hv4, hf4, hF4, hk4⟩
        obtain ⟨A4, c4, rfl, _, hr4⟩ := hv4.readsN (n := 1) rfl
        obtain ⟨ad, u, rfl, hu, hcell⟩ := hr4.at_ (k := 0) (by decide)
        simp [strs] at hu
        subst hu
        rw [add_zero_] at hcell
        obtain ⟨s, hs, hsz⟩ : ∃ s : ByteArray, strB (longL m k) = s ∧ s.size = k := ⟨_, rfl, by rw [strB_size]; exact P.out.2.2⟩
        rw [hs] at hcell
        have hsz' : ((s.size : Int) == (k : Int)) = true := by simp; omega
        clear hs hsz
        go_wp2_with fail
        refine (rest_calls _ _ _ _ _ _ _ hf4 (by simp)).mono ?_
        rintro en w5 ⟨rfl, rfl⟩
        go_wp2_with fail
        go_ret
        exact ⟨rfl, hkp.trans (hk3.trans hk4 hF3) fun b hb => .inr (hF b hb)⟩

theorem frameLong_walk (W : World) (a0 a1 : Int) (w0 : (Lit.int .u8 a0).wf = true) (w1 : (Lit.int .u8 a1).wf = true) :
    Calls Try.prog 3 #[.int .u8 a0, .int .u8 a1] W fun en w' => en = .returned (.bool true) ∧ Below W.heap.size W w' := by
  simp only [Lit.wf, Bool.and_eq_true, decide_eq_true_eq] at w0 w1
  have h0 : 0 ≤ a0 ∧ a0 ≤ 255 := w0
  have h1 : 0 ≤ a1 ∧ a1 ≤ 255 := w1
  obtain ⟨m, rfl⟩ := Int.eq_ofNat_of_zero_le h0.1
  obtain ⟨n, rfl⟩ := Int.eq_ofNat_of_zero_le h1.1
  exact (long_calls m n (by omega) (by omega) W).mono fun _ _ ⟨he, hk⟩ => ⟨he, hk.below⟩
end Go.Proofs.Ytccggeliajbfaaa
