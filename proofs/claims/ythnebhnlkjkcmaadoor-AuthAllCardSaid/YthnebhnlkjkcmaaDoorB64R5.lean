/- The reference's Put. -/
import Derived.Test.YthnebhnlkjkcmaaDoorB64V5
set_option linter.unusedVariables false
set_option linter.unusedSimpArgs false
namespace Go.Proofs.YthnebhnlkjkcmaaDoor
open Go.RowKit

/-- What the first t bytes say. -/
def pv (l : List UInt8) : Nat → Nat
  | 0 => 0
  | t + 1 => pv l t * 256 + (at0 l t).toNat
theorem pv_lt (l : List UInt8) : ∀ t, pv l t < 256 ^ t
  | 0 => by simp [pv]
  | t + 1 => by
    have h1 := pv_lt l t
    have h2 := (at0 l t).toNat_lt
    simp only [pv, Nat.pow_succ]
    omega
theorem pv_three (l : List UInt8) : pv l 3 = head3 l := by simp [pv, head3, num3]; omega
/-- What is left of N behind t letters. -/
def nt (N : Nat) : Nat → Nat
  | 0 => N
  | t + 1 => nt N t % 262144 * 64
theorem nt_lt {N : Nat} (h : N < 16777216) : ∀ t, nt N t < 16777216
  | 0 => h
  | t + 1 => by simp only [nt]; omega
theorem nt_at {N : Nat} (h : N < 16777216) {t : Nat} (ht : t < 4) : nt N t / 262144 = N / 2 ^ (6 * (3 - t)) % 64 := by
  match t, ht with
  | 0, _ => simp [nt]; omega
  | 1, _ => simp [nt]; omega
  | 2, _ => simp [nt]; omega
  | 3, _ => simp [nt]; omega
theorem letter_q (w : World) (n : Nat) (h : n < 64) (q : Int) (hq : q = (n : Int)) :
    Calls Tryd.prog 45 #[.int .i64 q] w fun en w' => en = .returned (.string (strB [al n])) ∧ w' = w := by
  subst hq
  exact letter_calls w n h

def RefO (w0 : World) (bs : List UInt8) (N gk : Nat) (v3 v4 : Value) (wr : World) : Prop :=
  ∃ (i : Nat) (acc : List UInt8) (s : ByteArray), gk = N - i ∧ i ≤ N + 2 ∧ v4 = .int .i64 i ∧ v3 = .string s ∧ Hid (strB acc = s) ∧ s.size ≤ 2 * i ∧ Hid (put64 bs = acc ++ put64 (bs.drop i)) ∧ Kept w0 wr NoB
def RefA (w0 : World) (l : List UInt8) (i gk : Nat) (v5 v6 v7 : Value) (wr : World) : Prop :=
  ∃ t k : Nat, t ≤ 3 ∧ gk = 3 - t ∧ Hid (k = i + t) ∧ v7 = .int .i64 k ∧ v5 = .int .i64 (pv l t : Nat) ∧ v6 = .int .i64 (min t l.length : Nat) ∧ Kept w0 wr NoB
def RefB (w0 : World) (acc : List UInt8) (N many gk : Nat) (v3 v5 v8 : Value) (wr : World) : Prop :=
  ∃ (t : Nat) (s : ByteArray), t ≤ 4 ∧ gk = 4 - t ∧ v8 = .int .i64 t ∧ v5 = .int .i64 (nt N t : Nat) ∧ v3 = .string s ∧ Hid (strB (acc ++ (quad N many).take t) = s) ∧ Kept w0 wr NoB

set_option maxHeartbeats 2000000 in
set_option maxRecDepth 100000 in
theorem refPut_calls (w : World) (S : Nat → Prop) (A : Option Addr) (n c : Nat) (bs : List UInt8) (hr : Reads w S A n (b8s bs)) (hn0 : n ≤ 1099511627776) (hc : n ≤ c) :
    Calls Tryd.prog 29 #[.slice A n c] w fun en w' => en = .returned (.string (strB (put64 bs))) ∧ Kept w w' NoB := by
  have hl : bs.length = n := by have := hr.1; rwa [b8s_length] at this
  have HL := Lib.hid hl
  have HR := Lib.hid hr
  clear hl hr
  go_enter Tryd.func29, Tryd.ntmps29
  go_wp2_with fail
  go_loopg [3, 4] n (fun gk v3 v4 wr => RefO w bs n gk v3 v4 wr)
  case atStart => exact ⟨0, [], ⟨#[]⟩, rfl, by omega, rfl, rfl, rfl, by decide, (by simp : put64 bs = [] ++ put64 (bs.drop 0)), Kept.refl _ _⟩
  case round =>
    obtain ⟨i, acc, s, hgk, hi2, rfl, rfl, hs, hssz, hput, hkr⟩ := hrel
    have HG := Lib.hid hgk
    have HKR := Lib.hid hkr
    clear hgk hkr
    rcases Nat.lt_or_ge i n with hlt | hge
    · obtain ⟨l, hl⟩ : ∃ l, bs.drop i = l := ⟨_, rfl⟩
      rw [hl] at hput
      have hll : l.length = n - i := by rw [← hl, List.length_drop, HL.out]
      have HLD := Lib.hid hl
      have HLL := Lib.hid hll
      clear hl hll
      have hi40 : i ≤ 1099511627776 := by omega
      go_wp2_with fail
      go_loopg [5, 6, 7] 3 (fun gk v5 v6 v7 wr => RefA w l i gk v5 v6 v7 wr)
      case atStart => exact ⟨0, i, by omega, rfl, rfl, rfl, rfl, by simp, HKR.out⟩
      case round =>
        obtain ⟨t, k, ht, hgk2, hk, rfl, rfl, rfl, hkr2⟩ := hrel
        have HG2 := Lib.hid hgk2
        have HK2 := Lib.hid hkr2
        clear hgk2 hkr2
        rcases Nat.lt_or_ge t 3 with ht3 | ht3
        · have hk3 : (k : Int) < (i : Int) + 3 := by have := hk.out; omega
          have hk40 : k ≤ 1099511627779 := by have := hk.out; omega
          obtain ⟨p, hp⟩ : ∃ p, pv l t = p := ⟨_, rfl⟩
          have hp24 : p < 65536 := by
            have := pv_lt l t
            rw [hp] at this
            match t, ht3, this with
            | 0, _, h => simp at h; omega
            | 1, _, h => simp at h; omega
            | 2, _, h => simp at h; omega
          rw [hp]
          have HP := Lib.hid hp
          clear hp
          obtain ⟨mm, hmm⟩ : ∃ mm, min t l.length = mm := ⟨_, rfl⟩
          rw [hmm]
          have HM := Lib.hid hmm
          have hm3 : mm ≤ 3 := by omega
          clear hmm
          rcases Nat.lt_or_ge k n with hkn | hkn
          · obtain ⟨ad, u, hA, hu, hcell⟩ := (HR.out.kept0 HK2.out).at_ hkn
            subst hA
            have hkl : k < bs.length := by rw [HL.out]; exact hkn
            rw [b8s_at bs k hkl] at hu
            injection hu with hu
            subst hu
            obtain ⟨cb, hcb⟩ : ∃ cb : Nat, bs[k].toNat = cb := ⟨_, rfl⟩
            rw [hcb] at hcell
            have hc8 : cb < 256 := by rw [← hcb]; exact bs[k].toNat_lt
            have hat : (at0 l t).toNat = cb := by
              have : at0 l t = bs[k] := by
                unfold at0
                rw [← HLD.out, List.getD_eq_getElem?_getD, List.getElem?_drop, ← hk.out, List.getElem?_eq_getElem hkl]
                rfl
              rw [this, hcb]
            have HAT := Lib.hid hat
            clear hat hcb
            go_wp2_with fail
            go_roundg (3 - (t + 1))
            case measure => have := HG2.out; omega
            case rel =>
              refine ⟨t + 1, k + 1, by omega, rfl, ?_, by simp, ?_, ?_, HK2.out⟩
              · show k + 1 = i + (t + 1)
                have := hk.out; omega
              · simp only [pv, HP.out, HAT.out]
                congr 1
              · have h1 := HM.out; have h2 := HLL.out; have h3 := hk.out
                congr 1
                omega
          · have hat : (at0 l t).toNat = 0 := by
              have : at0 l t = 0 := by
                unfold at0
                rw [List.getD_eq_getElem?_getD, List.getElem?_eq_none (by have := HLL.out; have := hk.out; omega)]
                rfl
              rw [this]; rfl
            have HAT := Lib.hid hat
            clear hat
            go_wp2_with fail
            go_roundg (3 - (t + 1))
            case measure => have := HG2.out; omega
            case rel =>
              refine ⟨t + 1, k + 1, by omega, rfl, ?_, by simp, ?_, ?_, HK2.out⟩
              · show k + 1 = i + (t + 1)
                have := hk.out; omega
              · simp only [pv, HP.out, HAT.out]
                congr 1
              · have h1 := HM.out; have h2 := HLL.out; have h3 := hk.out
                congr 1
                omega
        · obtain rfl : t = 3 := by omega
          have hk3 : ¬ (k : Int) < (i : Int) + 3 := by have := hk.out; omega
          obtain ⟨N, hN⟩ : ∃ N, pv l 3 = N := ⟨_, rfl⟩
          have hN24 : N < 16777216 := by have := pv_lt l 3; rw [hN] at this; simpa using this
          rw [hN]
          have HN := Lib.hid hN
          clear hN
          obtain ⟨mm, hmm⟩ : ∃ mm, min 3 l.length = mm := ⟨_, rfl⟩
          rw [hmm]
          have HM := Lib.hid hmm
          have hm3 : mm ≤ 3 := by omega
          clear hmm
          go_wp2_with fail
          go_loopg [3, 5, 8] 4 (fun gk v3 v5 v8 wr => RefB w acc N mm gk v3 v5 v8 wr)
          case atStart => exact ⟨0, s, by omega, rfl, rfl, rfl, rfl, (by simpa using hs.out : strB (acc ++ (quad N mm).take 0) = s), HK2.out⟩
          case round =>
            obtain ⟨u, s1, hu4, hgk3, rfl, rfl, rfl, hs1, hkr3⟩ := hrel
            have HG3 := Lib.hid hgk3
            have HK3 := Lib.hid hkr3
            clear hgk3 hkr3
            have hs1sz : s1.size ≤ 2 * i + 4 := by
              have e0 := hs.out
              rw [← hs1.out, strB_size, List.length_append, List.length_take]
              rw [← e0, strB_size] at hssz
              omega
            rcases Nat.lt_or_ge u 4 with hu | hu
            · obtain ⟨q, hq⟩ : ∃ q, nt N u = q := ⟨_, rfl⟩
              rw [hq]
              have hq24 : q < 16777216 := by rw [← hq]; exact nt_lt hN24 u
              have hqv := nt_at hN24 hu
              rw [hq] at hqv
              have hnx : nt N (u + 1) = q % 262144 * 64 := by simp only [nt, hq]
              have HNX := Lib.hid hnx
              have HQV := Lib.hid hqv
              clear hq hnx hqv
              have hq64 : q / 262144 < 64 := by omega
              by_cases hum : u ≤ mm
              · have hum' : (u : Int) ≤ (mm : Int) := by omega
                have hch : ch N mm u = al (q / 262144) := by rw [ch_in hum, HQV.out]
                have HCH := Lib.hid hch
                clear hch
                go_wp2_with fail
                refine (letter_q _ (q / 262144) hq64 _ (by omega)).mono ?_
                rintro en w9 ⟨rfl, rfl⟩
                go_wp2_with fail
                go_roundg (4 - (u + 1))
                case measure => have := HG3.out; omega
                case rel =>
                  refine ⟨u + 1, _, by omega, rfl, by simp, by rw [HNX.out]; simp, rfl, ?_, HK3.out⟩
                  show strB (acc ++ (quad N mm).take (u + 1)) = _
                  rw [quad_take N mm hu, HCH.out, ← List.append_assoc, ← hs1.out]
                  apply ByteArray.ext
                  simp [strB]
              · have hum' : ¬ (u : Int) ≤ (mm : Int) := by omega
                have hch : ch N mm u = 61 := ch_out hum
                have HCH := Lib.hid hch
                clear hch
                go_wp2_with fail
                go_roundg (4 - (u + 1))
                case measure => have := HG3.out; omega
                case rel =>
                  refine ⟨u + 1, _, by omega, rfl, by simp, by rw [HNX.out]; simp, rfl, ?_, HK3.out⟩
                  show strB (acc ++ (quad N mm).take (u + 1)) = _
                  rw [quad_take N mm hu, HCH.out, ← List.append_assoc, ← hs1.out]
                  apply ByteArray.ext
                  simp [strB]
            · obtain rfl : u = 4 := by omega
              go_wp2_with fail
              go_roundg (n - (i + 3))
              case measure => have := HG.out; omega
              case rel =>
                refine ⟨i + 3, acc ++ quad N mm, s1, rfl, by omega, by simp, rfl, hs1, by omega, ?_, HK3.out⟩
                show put64 bs = acc ++ quad N mm ++ put64 (bs.drop (i + 3))
                have hne : l ≠ [] := fun e => by have := HLL.out; rw [e] at this; simp at this; omega
                rw [hput.out, put64, if_neg hne, List.append_assoc, Nat.min_comm, HM.out, ← pv_three, HN.out, ← HLD.out, List.drop_drop]
    · go_wp2_with fail
      go_ret
      refine ⟨?_, HKR.out⟩
      rw [hput.out, List.drop_eq_nil_of_le (by rw [HL.out]; exact hge), put64_nil, List.append_nil, hs.out]
      rfl
end Go.Proofs.YthnebhnlkjkcmaaDoor
