/- Addresses: the reference's digit, number, and Number. -/
import Derived.Test.YtlbipnfnimekfaaDoorValP
import Derived.Test.YtlbipnfnimekfaaDoorAddrV
set_option linter.unusedVariables false
set_option linter.unusedSimpArgs false
namespace Go.Proofs.YtlbipnfnimekfaaDoor
open Go.RowKit Go.Shelf

/-- Is there a digit at a place? -/
def digAt (L : List UInt8) (k : Nat) : Bool := match L[k]? with | some c => digC c | none => false
theorem dig_calls (w : World) (L : List UInt8) (B : ByteArray) (hB : strB L = B) (hl : L.length ≤ 1099511627) (k : Nat) (hk : k ≤ 1099511627) (b : Bool) (hb : digAt L k = b) :
    Calls Tryd.prog 27 #[.string B, .int .i64 (k : Int)] w fun en w' => en = .returned (.bool b) ∧ w = w' := by
  have hsz : B.size = L.length := by rw [← hB, strB_size]
  rcases Nat.lt_or_ge k L.length with hlt | hge
  · have y0 : k < B.size := by omega
    obtain ⟨x, hx⟩ : ∃ x : Nat, L[k].toNat = x := ⟨_, rfl⟩
    have i0 : (B[k]'y0).toNat = x := by subst hB; rw [strB_getI]; exact hx
    have hd : digAt L k = decide (48 ≤ x ∧ x ≤ 57) := by unfold digAt; rw [List.getElem?_eq_getElem hlt]; simp only [digC]; rw [hx]
    rw [hd] at hb
    obtain ⟨n, hn⟩ : ∃ n, L.length = n := ⟨_, rfl⟩
    rw [hn] at hsz hlt
    have t0 : (k : Int) < (n : Int) := by omega
    clear hd hx hB hn hl
    by_cases h1 : 48 ≤ x
    · have t1 : (48 : Int) ≤ (x : Int) := by omega
      by_cases h2 : x ≤ 57
      · have t2 : (x : Int) ≤ 57 := by omega
        have hbt : b = true := by rw [← hb]; simp [h1, h2]
        subst hbt
        clear hb
        go_enter Tryd.func27, Tryd.ntmps27
        go_wp2_with fail
        go_ret
        exact ⟨rfl, rfl⟩
      · have t2 : decide ((x : Int) ≤ 57) = false := by simp; omega
        have hbt : b = false := by rw [← hb]; simp [h2]
        subst hbt
        clear hb
        go_enter Tryd.func27, Tryd.ntmps27
        go_wp2_with fail
        go_ret
        exact ⟨rfl, rfl⟩
    · have t1 : decide ((48 : Int) ≤ (x : Int)) = false := by simp; omega
      have hbt : b = false := by rw [← hb]; simp [h1]
      subst hbt
      clear hb
      go_enter Tryd.func27, Tryd.ntmps27
      go_wp2_with fail
      go_ret
      exact ⟨rfl, rfl⟩
  · have hd : digAt L k = false := by unfold digAt; rw [List.getElem?_eq_none hge]
    rw [hd] at hb
    subst hb
    obtain ⟨n, hn⟩ : ∃ n, L.length = n := ⟨_, rfl⟩
    rw [hn] at hsz hge
    have t0 : decide ((k : Int) < (n : Int)) = false := by simp; omega
    have t0' : decide (k < n) = false := by simp; omega
    clear hd hB hn hl
    go_enter Tryd.func27, Tryd.ntmps27
    go_wp2_with fail
    go_ret
    exact ⟨rfl, rfl⟩
theorem digAt_take (L : List UInt8) (k : Nat) : ∀ j, j ≤ ((L.drop k).takeWhile digC).length → digAt L (k + j) = decide (j < ((L.drop k).takeWhile digC).length) := by
  have gen : ∀ (M : List UInt8) (j : Nat), j ≤ (M.takeWhile digC).length → (match M[j]? with | some c => digC c | none => false) = decide (j < (M.takeWhile digC).length) := by
    intro M
    induction M with
    | nil => intro j hj; simp at hj; subst hj; rfl
    | cons c M ih =>
      intro j hj
      cases hc : digC c with
      | true =>
        rw [List.takeWhile_cons_of_pos hc] at hj ⊢
        cases j with
        | zero => simp [hc]
        | succ j =>
          simp only [List.length_cons] at hj
          rw [List.getElem?_cons_succ, ih j (by omega)]
          simp
      | false =>
        rw [List.takeWhile_cons_of_neg (by simp [hc])] at hj ⊢
        simp at hj
        subst hj
        simp [hc]
  intro j hj
  unfold digAt
  have := gen (L.drop k) j hj
  rwa [List.getElem?_drop] at this
def NbS (w0 : World) (k t gk : Nat) (v6 : Value) (wr : World) : Prop := ∃ j, j ≤ t ∧ gk = t - j ∧ v6 = .int .i64 ((k + j : Nat) : Int) ∧ w0 = wr
set_option maxHeartbeats 1000000 in
theorem numb_calls (w : World) (L : List UInt8) (B : ByteArray) (hB : strB L = B) (hl : L.length ≤ 1099511627) (k : Nat) (hk : k ≤ L.length) :
    Calls Tryd.prog 28 #[.string B, .int .i64 (k : Int)] w fun en w' =>
      en = .returned (.tuple #[.string (strB ((L.drop k).takeWhile digC)), .int .i64 ((k + ((L.drop k).takeWhile digC).length : Nat) : Int)]) ∧ w = w' := by
  have hsz : B.size = L.length := by rw [← hB, strB_size]
  have htl : ((L.drop k).takeWhile digC).length ≤ L.length - k := by
    have := (List.takeWhile_prefix (l := L.drop k) digC).length_le
    rwa [List.length_drop] at this
  have hda := digAt_take L k
  have hcut : B.extract k (k + ((L.drop k).takeWhile digC).length) = strB ((L.drop k).takeWhile digC) := by
    rw [← hB, ix_cut, Nat.add_sub_cancel_left]
    congr 1
    exact (List.prefix_iff_eq_take.1 (List.takeWhile_prefix (l := L.drop k) digC)).symm
  obtain ⟨W, hW⟩ : ∃ W, (L.drop k).takeWhile digC = W := ⟨_, rfl⟩
  rw [hW] at htl hda hcut ⊢
  obtain ⟨t, ht⟩ : ∃ t, W.length = t := ⟨_, rfl⟩
  rw [ht] at htl hda hcut ⊢
  obtain ⟨n, hn⟩ : ∃ n, L.length = n := ⟨_, rfl⟩
  have HL := Lib.hid hl
  rw [hn] at hsz htl hk hl
  have HN := Lib.hid hn
  have HDA := Lib.hid hda
  have HB := Lib.hid hB
  clear hda hB hn hW ht
  have hcut' : B.extract k (((k + t : Nat) : Int)).toNat = strB W := hcut
  have tt : (((k + t : Nat) : Int)) ≤ (n : Int) := by omega
  have tk : (k : Int) ≤ ((k + t : Nat) : Int) := by omega
  go_enter Tryd.func28, Tryd.ntmps28
  go_wp2_with fail
  go_loopg [6] t (fun gk v6 wr => NbS w k t gk v6 wr)
  case atStart => exact ⟨0, Nat.zero_le _, rfl, rfl, rfl⟩
  case round =>
    obtain ⟨j, hj, hgk, rfl, rfl⟩ := hrel
    have HG := Lib.hid hgk
    clear hgk
    rcases Nat.lt_or_ge j t with hlt | hge
    · have hd := HDA.out j hj
      rw [decide_eq_true hlt] at hd
      have HD := Lib.hid hd
      clear hd
      obtain ⟨m, hm⟩ : ∃ m, k + j = m := ⟨_, rfl⟩
      have HM := Lib.hid hm
      have hmn : m < n := by omega
      rw [hm]
      rw [hm] at HD
      clear hm
      go_wp2_with fail
      refine (dig_calls w L B HB.out HL.out m (by omega) true HD.out).mono ?_
      rintro en _ ⟨rfl, rfl⟩
      go_wp2_with fail
      go_roundg (t - (j + 1))
      case measure => have := HG.out; omega
      case rel => exact ⟨j + 1, hlt, rfl, by have := HM.out; rw [← this]; go_num, rfl⟩
    · obtain rfl : j = t := by omega
      have hd := HDA.out j hj
      rw [decide_eq_false (by omega)] at hd
      have HD := Lib.hid hd
      clear hd
      obtain ⟨m, hm⟩ : ∃ m, k + j = m := ⟨_, rfl⟩
      rw [hm] at HD tt tk hcut hcut' ⊢
      have hmn : m ≤ n := by omega
      have hkm : k ≤ m := by omega
      have HM := Lib.hid hm
      clear hm
      go_wp2_with fail
      refine (dig_calls w L B HB.out HL.out m (by omega) false HD.out).mono ?_
      rintro en _ ⟨rfl, rfl⟩
      go_wp2_with fail
      go_ret2
      exact ⟨by rw [HM.out]; rfl, rfl⟩
def NbR (w0 : World) (L : List UInt8) (gk : Nat) (v6 v7 : Value) (wr : World) : Prop :=
  ∃ i, i ≤ L.length ∧ gk = L.length - i ∧ v7 = .int .i64 (i : Int) ∧ v6 = .int .i64 ((valF 0 (L.take i) : Nat) : Int) ∧ (L.take i).all digC = true ∧ w0 = wr
set_option maxHeartbeats 2000000 in
theorem refNumber_calls (w : World) (L : List UInt8) (most : Int) (hl : L.length ≤ 1099511627) :
    Calls Tryd.prog 29 #[.string (strB L), .int .i64 most] w fun en w' => en = .returned (numR (numD L most)) ∧ w = w' := by
  obtain ⟨B, hB⟩ : ∃ B, strB L = B := ⟨_, rfl⟩
  have hsz : B.size = L.length := by rw [← hB, strB_size]
  obtain ⟨r, hr⟩ : ∃ r, numD L most = r := ⟨_, rfl⟩
  rw [hr, hB]
  have HR := Lib.hid hr
  have HB := Lib.hid hB
  clear hr hB
  by_cases h0 : L.length < 1
  · have hn : r = none := by rw [← HR.out, numD, if_neg]; rintro ⟨h, _⟩; exact h (List.length_eq_zero_iff.1 (by omega))
    subst hn
    have t0 : (L.length : Int) < 1 := by omega
    go_enter Tryd.func29, Tryd.ntmps29
    go_wp2_with fail
    go_ret2
    exact ⟨rfl, rfl⟩
  have t0 : decide ((L.length : Int) < 1) = false := by simp; omega
  by_cases h9 : 9 < L.length
  · have hn : r = none := by rw [← HR.out, numD, if_neg]; rintro ⟨_, h, _⟩; omega
    subst hn
    have t9 : (9 : Int) < (L.length : Int) := by omega
    have t0' : ¬ (L.length : Int) < 1 := by omega
    go_enter Tryd.func29, Tryd.ntmps29
    go_wp2_with fail
    go_ret2
    exact ⟨rfl, rfl⟩
  have t9 : decide ((9 : Int) < (L.length : Int)) = false := by simp; omega
  have t0' : ¬ (L.length : Int) < 1 := by omega
  have t9' : ¬ (9 : Int) < (L.length : Int) := by omega
  obtain ⟨n, hn⟩ : ∃ n, L.length = n := ⟨_, rfl⟩
  have HN := Lib.hid hn
  rw [hn] at hsz t0 t9 t0' t9' h0 h9 hl
  clear hn
  go_enter Tryd.func29, Tryd.ntmps29
  go_wp2_with fail
  go_loopg [6, 7] n (fun gk v6 v7 wr => NbR w L gk v6 v7 wr)
  case atStart => exact ⟨0, Nat.zero_le _, by rw [HN.out]; rfl, rfl, rfl, rfl, rfl⟩
  case round =>
    obtain ⟨i, hi, hgk, rfl, rfl, hall, rfl⟩ := hrel
    have HG := Lib.hid hgk
    have HALL := Lib.hid hall
    have hvl := valF_le hall (k := 9) (by rw [List.length_take, HN.out]; omega)
    have e9 : (10 : Nat) ^ 9 = 1000000000 := by decide
    rw [e9] at hvl
    clear hgk hall e9
    rcases Nat.lt_or_ge i L.length with hlt | hge
    · have hmore := List.take_succ_eq_append_getElem hlt
      have y0 : i < B.size := by rw [hsz, ← HN.out]; exact hlt
      obtain ⟨x, hx⟩ : ∃ x : Nat, L[i].toNat = x := ⟨_, rfl⟩
      have i0 : (B[i]'y0).toNat = x := by have := HB.out; subst this; rw [strB_getI]; exact hx
      have hxb : x < 256 := by rw [← hx]; exact UInt8.toNat_lt _
      have hvs := valF_snoc (L.take i) 0 L[i]
      rw [← hmore, hx] at hvs
      have hdx : digC L[i] = decide (48 ≤ x ∧ x ≤ 57) := by simp only [digC]; rw [hx]
      have hin : i < n := by rw [← HN.out]; exact hlt
      have ti : (i : Int) < (n : Int) := by omega
      obtain ⟨v, hv⟩ : ∃ v, valF 0 (L.take i) = v := ⟨_, rfl⟩
      rw [hv] at hvl hvs ⊢
      have HVS := Lib.hid hvs
      clear hv hvs hx hmore
      by_cases h48 : 48 ≤ x
      · have t1 : decide ((x : Int) < 48) = false := by simp; omega
        have t1' : ¬ (x : Int) < 48 := by omega
        by_cases h57 : x ≤ 57
        · have t2 : decide ((57 : Int) < (x : Int)) = false := by simp; omega
          have t2' : ¬ (57 : Int) < (x : Int) := by omega
          have hd1 : digC L[i] = true := by rw [hdx]; simp [h48, h57]
          have ha' := all_take hlt HALL.out hd1
          have HA := Lib.hid ha'
          have hsub : IntKind.u8.wrap ((x : Int) - 48) = (x : Int) - 48 := by simp [IntKind.wrap, IntKind.bits, IntKind.signed]; omega
          have HLT := Lib.hid hlt
          clear ha' hd1 hdx hlt
          go_wp2_with fail
          go_roundg (n - (i + 1))
          case measure => have := HG.out; have := HN.out; omega
          case rel =>
            exact ⟨i + 1, HLT.out, by rw [HN.out], by go_num, by rw [HVS.out]; congr 1; omega, HA.out, rfl⟩
        · have t2 : (57 : Int) < (x : Int) := by omega
          have hd1 : digC L[i] = false := by rw [hdx]; simp [h57]
          have hres : r = none := by rw [← HR.out, numD, if_neg]; rintro ⟨_, _, h, _⟩; rw [all_miss hlt hd1] at h; cases h
          subst hres
          clear hd1 hdx hlt
          go_wp2_with fail
          go_ret2
          exact ⟨rfl, rfl⟩
      · have t1 : (x : Int) < 48 := by omega
        have hd1 : digC L[i] = false := by rw [hdx]; simp [h48]
        have hres : r = none := by rw [← HR.out, numD, if_neg]; rintro ⟨_, _, h, _⟩; rw [all_miss hlt hd1] at h; cases h
        subst hres
        clear hd1 hdx hlt
        go_wp2_with fail
        go_ret2
        exact ⟨rfl, rfl⟩
    · obtain rfl : i = L.length := by omega
      have hall := HALL.out
      rw [List.take_length] at hall
      rw [List.take_length] at hvl ⊢
      have hres := HR.out
      unfold numD at hres
      have hne : L ≠ [] := by rintro rfl; exact h0 (by rw [← HN.out]; exact Nat.zero_lt_one)
      rw [HN.out]
      obtain ⟨v, hv⟩ : ∃ v, valF 0 L = v := ⟨_, rfl⟩
      rw [hv] at hvl hres ⊢
      by_cases hm : most < (v : Int)
      · have hn : r = none := by rw [← hres, if_neg]; rintro ⟨_, _, _, h⟩; omega
        subst hn
        clear hres hv hall HALL
        go_wp2_with fail
        go_ret2
        exact ⟨rfl, rfl⟩
      · have hn : r = some (v : Int) := by rw [← hres, if_pos ⟨hne, by rw [HN.out]; omega, hall, by omega⟩]
        subst hn
        clear hres hv hall HALL
        go_wp2_with fail
        go_ret2
        exact ⟨rfl, rfl⟩
end Go.Proofs.YtlbipnfnimekfaaDoor
