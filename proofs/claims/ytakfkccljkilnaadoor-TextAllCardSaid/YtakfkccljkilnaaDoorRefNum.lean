/- The reference's Number. -/
import Derived.Test.YtakfkccljkilnaaDoorValT
set_option linter.unusedVariables false
set_option linter.unusedSimpArgs false
namespace Go.Proofs.YtakfkccljkilnaaDoor
open Go.RowKit Go.Shelf

def NbR (w0 : World) (L : List UInt8) (gk : Nat) (v6 v7 : Value) (wr : World) : Prop :=
  ∃ i, i ≤ L.length ∧ gk = L.length - i ∧ v7 = .int .i64 (i : Int) ∧ v6 = .int .i64 ((valF 0 (L.take i) : Nat) : Int) ∧ (L.take i).all digC = true ∧ w0 = wr
set_option maxHeartbeats 2000000 in
theorem refNumber_calls (w : World) (L : List UInt8) (most : Int) (hl : L.length ≤ 1099511627) :
    Calls Tryd.prog 18 #[.string (strB L), .int .i64 most] w fun en w' => en = .returned (numR (numD L most)) ∧ w = w' := by
  obtain ⟨B, hB⟩ : ∃ B, strB L = B := ⟨_, rfl⟩
  have hsz : B.size = L.length := by rw [← hB, strB_size]
  obtain ⟨r, hr⟩ : ∃ r, numD L most = r := ⟨_, rfl⟩
  rw [hr, hB]
  have HR := Lib.hid hr
  have HB := Lib.hid hB
  clear hr hB
  by_cases h0 : L.length < 1
  · have hn : r = none := by rw [← HR.out, numD, if_neg]; rintro ⟨h, _⟩; exact h (List.length_eq_zero_iff.1 (by omega))
    subst hn
    have t0 : (L.length : Int) < 1 := by omega
    go_enter Tryd.func18, Tryd.ntmps18
    go_wp2_with fail
    go_ret2
    exact ⟨rfl, rfl⟩
  have t0 : decide ((L.length : Int) < 1) = false := by simp; omega
  by_cases h9 : 9 < L.length
  · have hn : r = none := by rw [← HR.out, numD, if_neg]; rintro ⟨_, h, _⟩; omega
    subst hn
    have t9 : (9 : Int) < (L.length : Int) := by omega
    have t0' : ¬ (L.length : Int) < 1 := by omega
    go_enter Tryd.func18, Tryd.ntmps18
    go_wp2_with fail
    go_ret2
    exact ⟨rfl, rfl⟩
  have t9 : decide ((9 : Int) < (L.length : Int)) = false := by simp; omega
  have t0' : ¬ (L.length : Int) < 1 := by omega
  have t9' : ¬ (9 : Int) < (L.length : Int) := by omega
  obtain ⟨n, hn⟩ : ∃ n, L.length = n := ⟨_, rfl⟩
  have HN := Lib.hid hn
  rw [hn] at hsz t0 t9 t0' t9' h0 h9 hl
  clear hn
  go_enter Tryd.func18, Tryd.ntmps18
  go_wp2_with fail
  go_loopg [6, 7] n (fun gk v6 v7 wr => NbR w L gk v6 v7 wr)
  case atStart => exact ⟨0, Nat.zero_le _, by rw [HN.out]; rfl, rfl, rfl, rfl, rfl⟩
  case round =>
    obtain ⟨i, hi, hgk, rfl, rfl, hall, rfl⟩ := hrel
    have HG := Lib.hid hgk
    have HALL := Lib.hid hall
    have hvl := valF_le hall (k := 9) (by rw [List.length_take, HN.out]; omega)
    have e9 : (10 : Nat) ^ 9 = 1000000000 := by decide
    rw [e9] at hvl
    clear hgk hall e9
    rcases Nat.lt_or_ge i L.length with hlt | hge
    · have hmore := List.take_succ_eq_append_getElem hlt
      have y0 : i < B.size := by rw [hsz, ← HN.out]; exact hlt
      obtain ⟨x, hx⟩ : ∃ x : Nat, L[i].toNat = x := ⟨_, rfl⟩
      have i0 : (B[i]'y0).toNat = x := by have := HB.out; subst this; rw [strB_getI]; exact hx
      have hxb : x < 256 := by rw [← hx]; exact UInt8.toNat_lt _
      have hvs := valF_snoc (L.take i) 0 L[i]
      rw [← hmore, hx] at hvs
      have hdx : digC L[i] = decide (48 ≤ x ∧ x ≤ 57) := by simp only [digC]; rw [hx]
      have hin : i < n := by rw [← HN.out]; exact hlt
      have ti : (i : Int) < (n : Int) := by omega
      obtain ⟨v, hv⟩ : ∃ v, valF 0 (L.take i) = v := ⟨_, rfl⟩
      rw [hv] at hvl hvs ⊢
      have HVS := Lib.hid hvs
      clear hv hvs hx hmore
      by_cases h48 : 48 ≤ x
      · have t1 : decide ((x : Int) < 48) = false := by simp; omega
        have t1' : ¬ (x : Int) < 48 := by omega
        by_cases h57 : x ≤ 57
        · have t2 : decide ((57 : Int) < (x : Int)) = false := by simp; omega
          have t2' : ¬ (57 : Int) < (x : Int) := by omega
          have hd1 : digC L[i] = true := by rw [hdx]; simp [h48, h57]
          have ha' := all_take hlt HALL.out hd1
          have HA := Lib.hid ha'
          have hsub : IntKind.u8.wrap ((x : Int) - 48) = (x : Int) - 48 := by simp [IntKind.wrap, IntKind.bits, IntKind.signed]; omega
          have HLT := Lib.hid hlt
          clear ha' hd1 hdx hlt
          go_wp2_with fail
          go_roundg (n - (i + 1))
          case measure => have := HG.out; have := HN.out; omega
          case rel =>
            exact ⟨i + 1, HLT.out, by rw [HN.out], by go_num, by rw [HVS.out]; congr 1; omega, HA.out, rfl⟩
        · have t2 : (57 : Int) < (x : Int) := by omega
          have hd1 : digC L[i] = false := by rw [hdx]; simp [h57]
          have hres : r = none := by rw [← HR.out, numD, if_neg]; rintro ⟨_, _, h, _⟩; rw [all_miss hlt hd1] at h; cases h
          subst hres
          clear hd1 hdx hlt
          go_wp2_with fail
          go_ret2
          exact ⟨rfl, rfl⟩
      · have t1 : (x : Int) < 48 := by omega
        have hd1 : digC L[i] = false := by rw [hdx]; simp [h48]
        have hres : r = none := by rw [← HR.out, numD, if_neg]; rintro ⟨_, _, h, _⟩; rw [all_miss hlt hd1] at h; cases h
        subst hres
        clear hd1 hdx hlt
        go_wp2_with fail
        go_ret2
        exact ⟨rfl, rfl⟩
    · obtain rfl : i = L.length := by omega
      have hall := HALL.out
      rw [List.take_length] at hall
      rw [List.take_length] at hvl ⊢
      have hres := HR.out
      unfold numD at hres
      have hne : L ≠ [] := by rintro rfl; exact h0 (by rw [← HN.out]; exact Nat.zero_lt_one)
      rw [HN.out]
      obtain ⟨v, hv⟩ : ∃ v, valF 0 L = v := ⟨_, rfl⟩
      rw [hv] at hvl hres ⊢
      by_cases hm : most < (v : Int)
      · have hn : r = none := by rw [← hres, if_neg]; rintro ⟨_, _, _, h⟩; omega
        subst hn
        clear hres hv hall HALL
        go_wp2_with fail
        go_ret2
        exact ⟨rfl, rfl⟩
      · have hn : r = some (v : Int) := by rw [← hres, if_pos ⟨hne, by rw [HN.out]; omega, hall, by omega⟩]
        subst hn
        clear hres hv hall HALL
        go_wp2_with fail
        go_ret2
        exact ⟨rfl, rfl⟩
end Go.Proofs.YtakfkccljkilnaaDoor
