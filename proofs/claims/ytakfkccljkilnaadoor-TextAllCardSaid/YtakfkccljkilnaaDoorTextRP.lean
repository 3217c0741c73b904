/- The reference's Plain and Has. -/
import Derived.Test.YtakfkccljkilnaaDoorTextR
import Derived.Test.YtakfkccljkilnaaDoorTextN2
set_option linter.unusedVariables false
set_option linter.unusedSimpArgs false
namespace Go.Proofs.YtakfkccljkilnaaDoor
open Go.RowKit Go.Shelf

def RpS (w0 : World) (l : List UInt8) (gk : Nat) (v3 : Value) (wr : World) : Prop :=
  ∃ i, i ≤ l.length ∧ gk = l.length - i ∧ v3 = .int .i64 (i : Int) ∧ (l.take i).all prC = true ∧ w0 = wr
set_option maxHeartbeats 2000000 in
theorem refPlain_calls (w : World) (l : List UInt8) (hl : l.length ≤ 1099511627776) :
    Calls Tryd.prog 21 #[.string (strB l)] w fun en w' => en = .returned (.bool (prL l)) ∧ w = w' := by
  obtain ⟨B, hB⟩ : ∃ B, strB l = B := ⟨_, rfl⟩
  have hsz : B.size = l.length := by rw [← hB, strB_size]
  have hget : ∀ j, (h : j < l.length) → ∀ h' : j < B.size, (B[j]'h').toNat = l[j].toNat := fun j h h' => by subst hB; rw [strB_getI]
  have HGET := Lib.hid hget
  rw [hB]
  obtain ⟨n, hn⟩ : ∃ n, l.length = n := ⟨_, rfl⟩
  rw [hn] at hsz hl
  have HN := Lib.hid hn
  clear hget hn hB
  go_enter Tryd.func21, Tryd.ntmps21
  go_wp2_with fail
  go_loopg [3] n (fun gk v3 wr => RpS w l gk v3 wr)
  case atStart => exact ⟨0, Nat.zero_le _, by rw [HN.out]; rfl, rfl, rfl, rfl⟩
  case round =>
    obtain ⟨i, hi, hgk, rfl, hall, rfl⟩ := hrel
    have HG := Lib.hid hgk
    have HALL := Lib.hid hall
    rw [HN.out] at hi
    clear hgk hall
    rcases Nat.lt_or_ge i n with hlt | hge
    · have hil : i < l.length := by rw [HN.out]; exact hlt
      have y0 : i < B.size := by rw [hsz]; exact hlt
      have t0 : (i : Int) < (n : Int) := by omega
      obtain ⟨x, hx⟩ : ∃ x : Nat, l[i].toNat = x := ⟨_, rfl⟩
      have i0 : (B[i]'y0).toNat = x := (HGET.out i hil y0).trans hx
      have hp : prC l[i] = decide (32 ≤ x ∧ x ≤ 126) := by simp only [prC]; rw [hx]
      have HP := Lib.hid hp
      clear hx hp
      by_cases h1 : 32 ≤ x
      · have t1 : ¬ (x : Int) < 32 := by omega
        have t1' := decide_eq_false t1
        by_cases h2 : x ≤ 126
        · have t2 : ¬ (126 : Int) < (x : Int) := by omega
          have t2' := decide_eq_false t2
          have HA2 : Hid ((l.take (i + 1)).all prC = true) := Lib.hid (all_take hil HALL.out (by rw [HP.out]; simp [h1, h2]))
          go_wp2_with fail
          go_roundg (n - (i + 1))
          case measure => have := HG.out; rw [HN.out] at this; omega
          case rel => exact ⟨i + 1, by rw [HN.out]; exact hlt, by rw [HN.out], by go_num, HA2.out, rfl⟩
        · have t2 : (126 : Int) < (x : Int) := by omega
          have HA2 : Hid (prL l = false) := Lib.hid (all_miss (p := prC) hil (by rw [HP.out]; simp [h2]))
          go_wp2_with fail
          go_ret
          exact ⟨by rw [HA2.out]; rfl, rfl⟩
      · have t1 : (x : Int) < 32 := by omega
        have HA2 : Hid (prL l = false) := Lib.hid (all_miss (p := prC) hil (by rw [HP.out]; simp [h1]))
        go_wp2_with fail
        go_ret
        exact ⟨by rw [HA2.out]; rfl, rfl⟩
    · obtain rfl : i = n := by omega
      have HA2 : Hid (prL l = true) := Lib.hid (by have := HALL.out; rwa [List.take_of_length_le (by rw [HN.out]; exact Nat.le_refl _)] at this)
      have t0 : ¬ (i : Int) < (i : Int) := by omega
      go_wp2_with fail
      go_ret
      exact ⟨by rw [HA2.out]; rfl, rfl⟩
theorem infix_at {S P : List UInt8} : P <:+: S ↔ ∃ j, j + P.length ≤ S.length ∧ (S.drop j).take P.length = P := by
  constructor
  · rintro ⟨a, b, rfl⟩
    refine ⟨a.length, by simp, ?_⟩
    rw [List.append_assoc, List.drop_left, List.take_left]
  · rintro ⟨j, hj, h⟩
    exact ⟨S.take j, (S.drop j).drop P.length, by rw [← h, List.length_take, List.length_drop, Nat.min_eq_left (by omega), List.append_assoc, List.take_append_drop, List.take_append_drop]⟩
def RhS (w0 : World) (S P : List UInt8) (gk : Nat) (v5 : Value) (wr : World) : Prop :=
  ∃ i, i ≤ S.length + 1 ∧ gk = S.length + 1 - i ∧ v5 = .int .i64 (i : Int) ∧ (∀ j, j < i → (S.drop j).take P.length ≠ P) ∧ Kept w0 wr NoB
set_option maxHeartbeats 2000000 in
theorem refHas_calls (w : World) (s p : List UInt8) (hs : s.length ≤ 1099511627) (hp : p.length ≤ 1099511627) :
    Calls Tryd.prog 23 #[.string (strB s), .string (strB p)] w fun en w' => en = .returned (.bool (hasTx s p)) ∧ Kept w w' NoB := by
  obtain ⟨S, hS⟩ : ∃ S, upL s = S := ⟨_, rfl⟩
  obtain ⟨P, hP⟩ : ∃ P, upL p = P := ⟨_, rfl⟩
  have hsl : S.length = s.length := by rw [← hS, upL_length]
  have hpl : P.length = p.length := by rw [← hP, upL_length]
  have hh : hasTx s p = Lib.contains S P := by unfold hasTx; rw [hS, hP]
  have HH := Lib.hid hh
  have HS := Lib.hid hS
  have HP := Lib.hid hP
  have hS1 : S.length ≤ 1099511627 := by omega
  have hP1 : P.length ≤ 1099511627 := by omega
  clear hS hP hh hsl hpl
  go_enter Tryd.func23, Tryd.ntmps23
  go_wp2_with fail
  refine (refUpper_calls w s (by omega)).mono ?_
  rw [HS.out]
  rintro en w1 ⟨rfl, hk⟩
  have HK1 := Lib.hid hk
  clear hk
  go_wp2_with fail
  refine (refUpper_calls w1 p (by omega)).mono ?_
  rw [HP.out]
  rintro en w2 ⟨rfl, hk⟩
  have HK2 := Lib.hid (HK1.out.trans' hk)
  clear hk
  obtain ⟨n, hn⟩ : ∃ n, S.length = n := ⟨_, rfl⟩
  obtain ⟨m, hm⟩ : ∃ m, P.length = m := ⟨_, rfl⟩
  have hsz1 : (strB S).size = n := by rw [strB_size, hn]
  have hsz2 : (strB P).size = m := by rw [strB_size, hm]
  obtain ⟨BS, hBS⟩ : ∃ B, strB S = B := ⟨_, rfl⟩
  obtain ⟨BP, hBP⟩ : ∃ B, strB P = B := ⟨_, rfl⟩
  have hcut : ∀ i, BS.extract i (i + m) = strB ((S.drop i).take m) := fun i => by rw [← hBS, strB_cut, show i + m - i = m by omega]
  have hbq : ∀ i, ((S.drop i).take m = P → ((strB ((S.drop i).take m)).toList == BP.toList) = true) ∧ ((S.drop i).take m ≠ P → ((strB ((S.drop i).take m)).toList == BP.toList) = false) := fun i => by
    rw [← hBP, strB_tl, strB_tl]
    exact ⟨fun h => by rw [h]; exact beq_self_eq_true _, fun h => beq_eq_false_iff_ne.2 h⟩
  rw [hBS] at hsz1 ⊢
  rw [hBP] at hsz2 ⊢
  have HN := Lib.hid hn
  have HM := Lib.hid hm
  have HCUT := Lib.hid hcut
  have HBQ := Lib.hid hbq
  rw [hn] at hS1
  rw [hm] at hP1
  clear hn hm hBS hBP hcut hbq
  go_wp2_with fail
  go_loopg [5] (n + 1) (fun gk v5 wr => RhS w S P gk v5 wr)
  case atStart => exact ⟨0, Nat.zero_le _, by rw [HN.out]; rfl, rfl, fun j h => absurd h (by omega), HK2.out⟩
  case round =>
    obtain ⟨i, hi, hgk, rfl, hno, hk⟩ := hrel
    have HG := Lib.hid hgk
    have HNO := Lib.hid hno
    have HK := Lib.hid hk
    rw [HN.out] at hi
    clear hgk hno hk
    rcases Nat.lt_or_ge n (i + m) with hge | hlt
    · have t0 : ¬ (i : Int) + (m : Int) ≤ (n : Int) := by omega
      have t0' := decide_eq_false t0
      have HR : Hid (Lib.contains S P = false) := Lib.hid (contains_false fun h => by
        obtain ⟨j, hj, he⟩ := infix_at.1 h
        rw [HM.out] at hj
        rw [HN.out] at hj
        exact HNO.out j (by omega) he)
      go_wp2_with fail
      go_ret
      exact ⟨by rw [HH.out, HR.out]; rfl, HK.out⟩
    · have t0 : (i : Int) + (m : Int) ≤ (n : Int) := by omega
      have t1 : ((i : Int) + (m : Int)).toNat = i + m := by omega
      have hc := HCUT.out i
      by_cases he : (S.drop i).take m = P
      · have hb := (HBQ.out i).1 he
        have HR : Hid (Lib.contains S P = true) := Lib.hid (contains_true (infix_at.2 ⟨i, by rw [HM.out, HN.out]; exact hlt, by rw [HM.out]; exact he⟩))
        rw [he] at hc hb
        obtain ⟨X, hX⟩ : ∃ X, strB P = X := ⟨_, rfl⟩
        rw [hX] at hc hb
        clear he hX
        go_wp2_with fail
        go_ret
        exact ⟨by rw [HH.out, HR.out]; rfl, HK.out⟩
      · have hb := (HBQ.out i).2 he
        have HE := Lib.hid he
        obtain ⟨X, hX⟩ : ∃ X, strB ((S.drop i).take m) = X := ⟨_, rfl⟩
        rw [hX] at hc hb
        clear he hX
        go_wp2_with fail
        go_roundg (n + 1 - (i + 1))
        case measure => have := HG.out; rw [HN.out] at this; omega
        case rel => exact ⟨i + 1, by rw [HN.out]; omega, by rw [HN.out], by go_num, fun j hj => by
          rcases Nat.lt_or_eq_of_le (Nat.lt_succ_iff.1 hj) with h | h
          · exact HNO.out j h
          · rw [h, HM.out]; exact HE.out, HK.out⟩
end Go.Proofs.YtakfkccljkilnaaDoor
