/- The reference's digits of any number: what it computes. -/
import Derived.Test.YtakfkccljkilnaaDoorW
import Derived.Test.YtakfkccljkilnaaDoorProg
import Derived.Lib.ItoaNum
import Derived.Lib.ItoaLen
set_option linter.unusedVariables false
set_option linter.unusedSimpArgs false
namespace Go.Proofs.YtakfkccljkilnaaDoor
open Go.RowKit

theorem dg_app (l m : List UInt8) : strB l ++ strB m = strB (l ++ m) := by
  apply ByteArray.ext
  simp [strB]
theorem dg_cut : ∀ a : Fin 10, (⟨#[48, 49, 50, 51, 52, 53, 54, 55, 56, 57]⟩ : ByteArray).extract a.val (a.val + 1) = strB [UInt8.ofNat (48 + a.val)] := by decide +kernel
theorem dg_cut' (a : Nat) (h : a < 10) : (⟨#[48, 49, 50, 51, 52, 53, 54, 55, 56, 57]⟩ : ByteArray).extract a (a + 1) = strB [UInt8.ofNat (48 + a)] := dg_cut ⟨a, h⟩
theorem dec_step {x : Nat} (h : ¬ x / 10 = 0) : Lib.decDigits x = Lib.decDigits (x / 10) ++ [UInt8.ofNat (48 + x % 10)] := by
  rw [Lib.decDigits, dif_neg (by omega)]
theorem dec_last {x : Nat} (h : x / 10 = 0) : Lib.decDigits x = [UInt8.ofNat (48 + x % 10)] := by
  have : x % 10 = x := by omega
  rw [Lib.decDigits_one (by omega), this]
theorem dec_len {X : Nat} (h : X < 18446744073709551616) : (Lib.decDigits X).length ≤ 20 := by
  rw [Lib.decDigits_length]
  exact Lib.nDigits_le20 X h
/-- Behind so many rounds: what is left of the number X, what has been spelt. -/
def DgS (X : Nat) (w0 : World) (gk : Nat) (v3 v4 v5 : Value) (wr : World) : Prop :=
  ∃ (x i : Nat) (s : List UInt8), wr = w0 ∧ v3 = .int .u64 (x : Int) ∧ v4 = .string (strB s) ∧ v5 = .int .i64 (i : Int) ∧ gk = 20 - i ∧ i ≤ 19 ∧ x < 10 ^ (20 - i) ∧ x ≤ X ∧ s.length = i ∧ Lib.decDigits X = Lib.decDigits x ++ s
theorem pow_step {x k : Nat} (h : x < 10 ^ (k + 1)) : x / 10 < 10 ^ k := by
  rw [Nat.pow_succ] at h
  omega
set_option maxHeartbeats 2000000 in
set_option maxRecDepth 100000 in
theorem refDigits_calls (w : World) (n : Int) (h1 : -9223372036854775808 ≤ n) (h2 : n ≤ 9223372036854775807) :
    Calls Tryd.prog 22 #[.int .i64 n] w fun en w' => en = .returned (.string (strB (Lib.itoa n))) ∧ w' = w := by
  obtain ⟨X, hX⟩ : ∃ X, n.natAbs = X := ⟨_, rfl⟩
  have hXl : X ≤ 9223372036854775808 := by omega
  have hdl := dec_len (X := X) (by omega)
  have hit : Lib.itoa n = if n < 0 then 45 :: Lib.decDigits X else Lib.decDigits X := by
    unfold Lib.itoa
    split
    · rw [hX]
    · rw [show n.toNat = X by omega]
  have hwrap : n < 0 → IntKind.u64.wrap (-(IntKind.u64.wrap n)) = (X : Int) := fun hn => by
    have e0 : IntKind.u64.wrap n = n + 18446744073709551616 := by
      simp [IntKind.wrap, IntKind.signed, IntKind.bits]
      omega
    rw [e0]
    simp [IntKind.wrap, IntKind.signed, IntKind.bits]
    omega
  have HIT := Lib.hid hit
  clear hit
  go_enter Tryd.func22, Tryd.ntmps22
  by_cases hn : n < 0
  · have hw := hwrap hn
    have HX := Lib.hid hX
    clear hwrap hX
    go_wp2_with fail
    go_loopg [3, 4, 5] 20 (fun gk v3 v4 v5 wr => DgS X w gk v3 v4 v5 wr)
    case atStart => exact ⟨X, 0, [], rfl, by first | rfl | (rw [hw]), rfl, rfl, rfl, by omega, by omega, Nat.le_refl _, rfl, by simp⟩
    case round =>
      obtain ⟨x, i, s, rfl, rfl, rfl, rfl, hgk, hi, hx, hxX, hs, hd⟩ := hrel
      have HG := Lib.hid hgk
      have HXX := Lib.hid hx
      have HS := Lib.hid hs
      have HD := Lib.hid hd
      have hsl : s.length ≤ 19 := by omega
      have e := dg_cut' (x % 10) (by omega)
      have e2 : strB [UInt8.ofNat (48 + x % 10)] ++ strB s = strB ([UInt8.ofNat (48 + x % 10)] ++ s) := dg_app _ _
      obtain ⟨c, hc⟩ : ∃ c, UInt8.ofNat (48 + x % 10) = c := ⟨_, rfl⟩
      rw [hc] at e e2
      have HC := Lib.hid hc
      have t1 : (i : Int) < 20 := by omega
      clear hgk hx hs hd hc hw
      by_cases hz : x / 10 = 0
      · have hz' : ((x : Int) / 10 == 0) = true := by rw [beq_iff_eq]; omega
        have hfin : Lib.decDigits X = c :: s := by rw [HD.out, dec_last hz, HC.out]; rfl
        have HF := Lib.hid hfin
        have e3 : (⟨#[45]⟩ : ByteArray) ++ strB (c :: s) = strB (45 :: c :: s) := dg_app [45] (c :: s)
        clear hfin hz
        go_wp2_with fail
        go_ret
        exact ⟨by rw [HIT.out, if_pos hn, HF.out]; rfl, rfl⟩
      · have hz' : ((x : Int) / 10 == 0) = false := by rw [beq_eq_false_iff_ne]; omega
        have hst := dec_step hz
        have hlast : i < 19 := by
          rcases Nat.lt_or_ge i 19 with h | h
          · exact h
          · obtain rfl : i = 19 := by omega
            have := HXX.out
            omega
        have hpw : x / 10 < 10 ^ (20 - (i + 1)) := by
          have h := HXX.out
          rw [show 20 - i = (20 - (i + 1)) + 1 by omega] at h
          exact pow_step h
        have HST := Lib.hid hst
        have HPW := Lib.hid hpw
        clear hst hpw hz
        go_wp2_with fail
        go_roundg (20 - (i + 1))
        case measure => have := HG.out; omega
        case rel => exact ⟨x / 10, i + 1, c :: s, rfl, by first | rfl | go_num, rfl, by go_num, rfl, by omega, HPW.out, by omega, by rw [List.length_cons, HS.out], by rw [HD.out, HST.out, HC.out]; simp⟩
  · have hw : IntKind.u64.wrap n = (X : Int) := by
      simp [IntKind.wrap, IntKind.signed, IntKind.bits]
      omega
    have HX := Lib.hid hX
    clear hwrap hX
    go_wp2_with fail
    go_loopg [3, 4, 5] 20 (fun gk v3 v4 v5 wr => DgS X w gk v3 v4 v5 wr)
    case atStart => exact ⟨X, 0, [], rfl, by first | rfl | (rw [hw]), rfl, rfl, rfl, by omega, by omega, Nat.le_refl _, rfl, by simp⟩
    case round =>
      obtain ⟨x, i, s, rfl, rfl, rfl, rfl, hgk, hi, hx, hxX, hs, hd⟩ := hrel
      have HG := Lib.hid hgk
      have HXX := Lib.hid hx
      have HS := Lib.hid hs
      have HD := Lib.hid hd
      have hsl : s.length ≤ 19 := by omega
      have e := dg_cut' (x % 10) (by omega)
      have e2 : strB [UInt8.ofNat (48 + x % 10)] ++ strB s = strB ([UInt8.ofNat (48 + x % 10)] ++ s) := dg_app _ _
      obtain ⟨c, hc⟩ : ∃ c, UInt8.ofNat (48 + x % 10) = c := ⟨_, rfl⟩
      rw [hc] at e e2
      have HC := Lib.hid hc
      have t1 : (i : Int) < 20 := by omega
      clear hgk hx hs hd hc hw
      by_cases hz : x / 10 = 0
      · have hz' : ((x : Int) / 10 == 0) = true := by rw [beq_iff_eq]; omega
        have hfin : Lib.decDigits X = c :: s := by rw [HD.out, dec_last hz, HC.out]; rfl
        have HF := Lib.hid hfin
        clear hfin hz
        go_wp2_with fail
        go_ret
        exact ⟨by rw [HIT.out, if_neg (show ¬ n < 0 by omega), HF.out]; rfl, rfl⟩
      · have hz' : ((x : Int) / 10 == 0) = false := by rw [beq_eq_false_iff_ne]; omega
        have hst := dec_step hz
        have hlast : i < 19 := by
          rcases Nat.lt_or_ge i 19 with h | h
          · exact h
          · obtain rfl : i = 19 := by omega
            have := HXX.out
            omega
        have hpw : x / 10 < 10 ^ (20 - (i + 1)) := by
          have h := HXX.out
          rw [show 20 - i = (20 - (i + 1)) + 1 by omega] at h
          exact pow_step h
        have HST := Lib.hid hst
        have HPW := Lib.hid hpw
        clear hst hpw hz
        go_wp2_with fail
        go_roundg (20 - (i + 1))
        case measure => have := HG.out; omega
        case rel => exact ⟨x / 10, i + 1, c :: s, rfl, by first | rfl | go_num, rfl, by go_num, rfl, by omega, HPW.out, by omega, by rw [List.length_cons, HS.out], by rw [HD.out, HST.out, HC.out]; simp⟩
end Go.Proofs.YtakfkccljkilnaaDoor
