/- B64Rows' walk. -/
import Derived.Test.YtllhnedfeballaaB64L
set_option linter.unusedVariables false
set_option linter.unusedSimpArgs false
namespace Go.Proofs.Ytllhnedfeballaa
open Go.RowKit

theorem al_val : ∀ v < 64, (v < 26 ∧ (al v).toNat = v + 65) ∨ ((26 ≤ v ∧ v < 52) ∧ (al v).toNat = v + 71) ∨ ((52 ≤ v ∧ v < 62) ∧ (al v).toNat + 4 = v) ∨ (v = 62 ∧ (al v).toNat = 43) ∨ (v = 63 ∧ (al v).toNat = 47) := by decide
theorem put64_three (a b c : UInt8) : put64 [a, b, c] = quad (num3 a b c) 3 := by
  rw [put64_step (by simp)]
  show _ ++ put64 [] = _
  rw [put64_nil, List.append_nil]
  rfl
/-- What the first j letters say. -/
def RowR (w0 : World) (N gk : Nat) (v5 v6 : Value) (wr : World) : Prop :=
  ∃ j n : Nat, j ≤ 4 ∧ gk = 4 - j ∧ v6 = .int .i64 j ∧ v5 = .int .i64 n ∧ n = N / 2 ^ (6 * (4 - j)) ∧ Kept w0 wr NoB

set_option maxHeartbeats 2000000 in
set_option maxRecDepth 100000 in
theorem rows_calls (w : World) (a b c : UInt8) :
    Calls Try.prog 5 #[.agg #[B8 a, B8 b, B8 c]] w fun en w' => en = .returned (.bool true) ∧ Kept w w' NoB := by
  have hN0 : num3 a b c < 16777216 := by
    have := a.toNat_lt; have := b.toNat_lt; have := c.toNat_lt
    unfold num3; omega
  obtain ⟨N, hN⟩ : ∃ N, num3 a b c = N := ⟨_, rfl⟩
  have hrd := Reads.bytes w 28 [a, b, c] #[B8 a, B8 b, B8 c] rfl (0, 0)
  have hbk := Blk.new w 28 #[B8 a, B8 b, B8 c]
  unfold B8 at hbk hrd ⊢
  have hal : ∀ j (h : j < 4), (quad N 3)[j]'(by simpa [quad] using h) = al (N / 2 ^ (6 * (3 - j)) % 64) := by
    intro j h
    match j, h with
    | 0, _ => rfl
    | 1, _ => rfl
    | 2, _ => rfl
    | 3, _ => rfl
  obtain ⟨s, hs⟩ : ∃ s, strB (put64 [a, b, c]) = s := ⟨_, rfl⟩
  have hsz : s.size = 4 := by rw [← hs, put64_three, strB_size]; rfl
  have hat : ∀ j (h : j < s.size), s[j] = al (N / 2 ^ (6 * (3 - j)) % 64) := by
    intro j h
    subst hs
    rw [← hal j (by omega)]
    subst hN
    show (put64 [a, b, c]).toArray[j] = _
    simp [put64_three]
  obtain ⟨x, hx⟩ : ∃ x, a.toNat = x := ⟨_, rfl⟩
  obtain ⟨y, hy⟩ : ∃ x, b.toNat = x := ⟨_, rfl⟩
  obtain ⟨z, hz⟩ : ∃ x, c.toNat = x := ⟨_, rfl⟩
  rw [hx, hy, hz] at hbk ⊢
  have hNx : N = x * 65536 + y * 256 + z := by rw [← hN, ← hx, ← hy, ← hz]; rfl
  have x8 : x < 256 := by rw [← hx]; exact a.toNat_lt
  have y8 : y < 256 := by rw [← hy]; exact b.toNat_lt
  have z8 : z < 256 := by rw [← hz]; exact c.toNat_lt
  have hwd : (w.alloc (.cells #[.int .u8 (a.toNat : Int), .int .u8 (b.toNat : Int), .int .u8 (c.toNat : Int)] 28)) = (w.alloc (.cells #[.int .u8 (x : Int), .int .u8 (y : Int), .int .u8 (z : Int)] 28)) := by rw [hx, hy, hz]
  rw [hwd] at hrd
  rw [hN] at hN0
  have HR := Lib.hid hrd
  have HS := Lib.hid hs
  have HSZ := Lib.hid hsz
  have HAT := Lib.hid hat
  have HNX := Lib.hid hNx
  have HB := Lib.hid hbk
  clear hrd hs hsz hat hNx hal hN hx hy hz hwd hbk
  go_enter Try.func5, Try.ntmps5
  go_wp2_with fail
  refine (shown_calls _).mono ?_
  rintro en w1 ⟨rfl, hk1⟩
  go_wp2_with fail
  refine (put64_any (w1 := w1) (HR.out.kept0 hk1) (by simp) (by simp) HS.out).mono ?_
  rintro en w2 ⟨rfl, hk2⟩
  have hk2' := hk1.trans' hk2
  have HK2 := Lib.hid hk2'
  have e4 : ((s.size : Int) != 4) = false := by have := HSZ.out; simp; omega
  clear hk1 hk2 hk2'
  go_wp2_with fail
  go_loopg [5, 6] 4 (fun gk v5 v6 wr => RowR w2 N gk v5 v6 wr)
  case atStart => exact ⟨0, 0, Nat.zero_le _, rfl, rfl, rfl, by simp; omega, Kept.refl _ _⟩
  case round =>
    obtain ⟨j, n, hj, hgk, rfl, rfl, hn, hkr⟩ := hrel
    have HG := Lib.hid hgk
    have HKR := Lib.hid hkr
    have HNN := Lib.hid hn
    clear hgk hkr hn
    rcases Nat.lt_or_ge j 4 with hlt | hge
    · have hjs : j < s.size := by have := HSZ.out; omega
      obtain ⟨v, hv⟩ : ∃ v, N / 2 ^ (6 * (3 - j)) % 64 = v := ⟨_, rfl⟩
      have hv64 : v < 64 := by omega
      have hat := HAT.out j hjs
      rw [hv] at hat
      obtain ⟨n', hn'⟩ : ∃ n', N / 2 ^ (6 * (4 - (j + 1))) = n' := ⟨_, rfl⟩
      have HN' : Hid (n' = N / 2 ^ (6 * (4 - (j + 1)))) := hn'.symm
      have HN : Hid (n * 64 + v = n') := by
        have e : n = N / 2 ^ (6 * (3 - j)) / 64 := by
          rw [HNN.out, Nat.div_div_eq_div_mul]
          congr 1
          rw [show 6 * (4 - j) = 6 * (3 - j) + 6 by omega, Nat.pow_add]
        have e2 : n' = N / 2 ^ (6 * (3 - j)) := by rw [← hn', show 4 - (j + 1) = 3 - j by omega]
        show n * 64 + v = n'
        rw [e, e2, ← hv]
        omega
      have hnb : n' < 16777216 := by rw [← hn']; exact Nat.lt_of_le_of_lt (Nat.div_le_self _ _) hN0
      have hcs := al_val v hv64
      rw [← hat] at hcs
      clear hv hat hn'
      rcases hcs with hx | hx | hx | hx | hx
      · have t65 : (65 : Int) ≤ (s[j].toNat : Int) := by omega
        have t97 : ¬ ((97 : Int) ≤ (s[j].toNat : Int)) := by omega
        have t48 : (48 : Int) ≤ (s[j].toNat : Int) := by omega
        have t90 : (s[j].toNat : Int) ≤ 90 := by omega
        have t122 : (s[j].toNat : Int) ≤ 122 := by omega
        have t57 : ¬ ((s[j].toNat : Int) ≤ 57) := by omega
        have e43 : ((s[j].toNat : Int) == 43) = false := by simp; omega
        have n43 : ((s[j].toNat : Int) != 43) = true := by simp; omega
        have e47 : ((s[j].toNat : Int) == 47) = false := by simp; omega
        have n47 : ((s[j].toNat : Int) != 47) = true := by simp; omega
        have hn : (n : Int) * 64 + ((s[j].toNat : Int) - 65) = ((n' : Nat) : Int) := by have := HN.out; omega
        have HX := Lib.hid hx
        clear hx
        go_wp2_with fail
        go_roundg (4 - (j + 1))
        case measure => have := HG.out; omega
        case rel => exact ⟨j + 1, n', hlt, rfl, by simp, by rw [← hn], HN'.out, HKR.out⟩
      · have t65 : (65 : Int) ≤ (s[j].toNat : Int) := by omega
        have t97 : (97 : Int) ≤ (s[j].toNat : Int) := by omega
        have t48 : (48 : Int) ≤ (s[j].toNat : Int) := by omega
        have t90 : ¬ ((s[j].toNat : Int) ≤ 90) := by omega
        have t122 : (s[j].toNat : Int) ≤ 122 := by omega
        have t57 : ¬ ((s[j].toNat : Int) ≤ 57) := by omega
        have e43 : ((s[j].toNat : Int) == 43) = false := by simp; omega
        have n43 : ((s[j].toNat : Int) != 43) = true := by simp; omega
        have e47 : ((s[j].toNat : Int) == 47) = false := by simp; omega
        have n47 : ((s[j].toNat : Int) != 47) = true := by simp; omega
        have hn : (n : Int) * 64 + ((s[j].toNat : Int) - 97 + 26) = ((n' : Nat) : Int) := by have := HN.out; omega
        have HX := Lib.hid hx
        clear hx
        go_wp2_with fail
        go_roundg (4 - (j + 1))
        case measure => have := HG.out; omega
        case rel => exact ⟨j + 1, n', hlt, rfl, by simp, by rw [← hn], HN'.out, HKR.out⟩
      · have t65 : ¬ ((65 : Int) ≤ (s[j].toNat : Int)) := by omega
        have t97 : ¬ ((97 : Int) ≤ (s[j].toNat : Int)) := by omega
        have t48 : (48 : Int) ≤ (s[j].toNat : Int) := by omega
        have t90 : (s[j].toNat : Int) ≤ 90 := by omega
        have t122 : (s[j].toNat : Int) ≤ 122 := by omega
        have t57 : (s[j].toNat : Int) ≤ 57 := by omega
        have e43 : ((s[j].toNat : Int) == 43) = false := by simp; omega
        have n43 : ((s[j].toNat : Int) != 43) = true := by simp; omega
        have e47 : ((s[j].toNat : Int) == 47) = false := by simp; omega
        have n47 : ((s[j].toNat : Int) != 47) = true := by simp; omega
        have hn : (n : Int) * 64 + ((s[j].toNat : Int) - 48 + 52) = ((n' : Nat) : Int) := by have := HN.out; omega
        have HX := Lib.hid hx
        clear hx
        go_wp2_with fail
        go_roundg (4 - (j + 1))
        case measure => have := HG.out; omega
        case rel => exact ⟨j + 1, n', hlt, rfl, by simp, by rw [← hn], HN'.out, HKR.out⟩
      · have t65 : ¬ ((65 : Int) ≤ (s[j].toNat : Int)) := by omega
        have t97 : ¬ ((97 : Int) ≤ (s[j].toNat : Int)) := by omega
        have t48 : ¬ ((48 : Int) ≤ (s[j].toNat : Int)) := by omega
        have t90 : (s[j].toNat : Int) ≤ 90 := by omega
        have t122 : (s[j].toNat : Int) ≤ 122 := by omega
        have t57 : (s[j].toNat : Int) ≤ 57 := by omega
        have e43 : ((s[j].toNat : Int) == 43) = true := by simp; omega
        have n43 : ((s[j].toNat : Int) != 43) = false := by simp; omega
        have e47 : ((s[j].toNat : Int) == 47) = false := by simp; omega
        have n47 : ((s[j].toNat : Int) != 47) = true := by simp; omega
        have hn : (n : Int) * 64 + (62) = ((n' : Nat) : Int) := by have := HN.out; omega
        have HX := Lib.hid hx
        clear hx
        go_wp2_with fail
        go_roundg (4 - (j + 1))
        case measure => have := HG.out; omega
        case rel => exact ⟨j + 1, n', hlt, rfl, by simp, by rw [← hn], HN'.out, HKR.out⟩
      · have t65 : ¬ ((65 : Int) ≤ (s[j].toNat : Int)) := by omega
        have t97 : ¬ ((97 : Int) ≤ (s[j].toNat : Int)) := by omega
        have t48 : ¬ ((48 : Int) ≤ (s[j].toNat : Int)) := by omega
        have t90 : (s[j].toNat : Int) ≤ 90 := by omega
        have t122 : (s[j].toNat : Int) ≤ 122 := by omega
        have t57 : (s[j].toNat : Int) ≤ 57 := by omega
        have e43 : ((s[j].toNat : Int) == 43) = false := by simp; omega
        have n43 : ((s[j].toNat : Int) != 43) = true := by simp; omega
        have e47 : ((s[j].toNat : Int) == 47) = true := by simp; omega
        have n47 : ((s[j].toNat : Int) != 47) = false := by simp; omega
        have hn : (n : Int) * 64 + (63) = ((n' : Nat) : Int) := by have := HN.out; omega
        have HX := Lib.hid hx
        clear hx
        go_wp2_with fail
        go_roundg (4 - (j + 1))
        case measure => have := HG.out; omega
        case rel => exact ⟨j + 1, n', hlt, rfl, by simp, by rw [← hn], HN'.out, HKR.out⟩
    · obtain rfl : j = 4 := by omega
      have hnN : n = N := by rw [HNN.out]; simp
      have hk := HK2.out.trans' HKR.out
      have c0 : wr.cell? ⟨w.heap.size, 0, none⟩ = some (.int .u8 (x : Int)) := by rw [(HB.out.kept0 hk).cell]; rfl
      have c1 : wr.cell? ⟨w.heap.size, 1, none⟩ = some (.int .u8 (y : Int)) := by rw [(HB.out.kept0 hk).cell]; rfl
      have c2 : wr.cell? ⟨w.heap.size, 2, none⟩ = some (.int .u8 (z : Int)) := by rw [(HB.out.kept0 hk).cell]; rfl
      have hfin : ((n : Int) == (x : Int) * 65536 + (y : Int) * 256 + (z : Int)) = true := by
        have := HNX.out
        rw [beq_iff_eq]
        omega
      have HKF := Lib.hid hk
      clear hnN hk
      go_wp2_with fail
      go_ret
      exact ⟨rfl, ((Kept.refl w NoB).alloc _).trans' HKF.out⟩

theorem b8_of {x : Int} (h : (Lit.int .u8 x).wf = true) : B8 (UInt8.ofNat x.toNat) = .int .u8 x := by
  simp only [Lit.wf, Bool.and_eq_true, decide_eq_true_eq] at h
  have h1 : 0 ≤ x ∧ x ≤ 255 := h
  unfold B8
  congr 1
  simp
  omega
theorem b64Rows_walk (W : World) (x0 x1 x2 : Int) (w0 : (Lit.int .u8 x0).wf = true) (w1 : (Lit.int .u8 x1).wf = true) (w2 : (Lit.int .u8 x2).wf = true) :
    Calls Try.prog 5 #[.agg #[.int .u8 x0, .int .u8 x1, .int .u8 x2]] W fun en w' => en = .returned (.bool true) ∧ Below W.heap.size W w' := by
  have := rows_calls W (UInt8.ofNat x0.toNat) (UInt8.ofNat x1.toNat) (UInt8.ofNat x2.toNat)
  rw [b8_of w0, b8_of w1, b8_of w2] at this
  exact this.mono fun _ _ ⟨he, hk⟩ => ⟨he, hk.below⟩
end Go.Proofs.Ytllhnedfeballaa
