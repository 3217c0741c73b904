/- Addresses: the laws' digits, and texts without digits. -/
import Derived.Test.YtlbipnfnimekfaaDoorAddrS
import Derived.Test.YtlbipnfnimekfaaDoorAddrQ
set_option linter.unusedVariables false
set_option linter.unusedSimpArgs false
namespace Go.Proofs.YtlbipnfnimekfaaDoor
open Go.RowKit Go.Shelf

theorem lawDig : ∀ (k u : Nat), u ≤ k → u ≤ 1099511627 → ∀ (n : Int), n = (u : Int) → ∀ w, Calls Tryd.prog 9 #[.int .i64 n] w fun en w' => en = .returned (.string (strB (Lib.decDigits u))) ∧ w = w' := by
  intro k
  induction k with
  | zero =>
    intro u hu _ n hn w
    obtain rfl : u = 0 := by omega
    subst hn
    have e := dg_cut' 0 (by decide)
    have h0 : Lib.decDigits 0 = [48] := Lib.decDigits_one (by decide)
    rw [h0]
    clear h0
    go_enter Tryd.func9, Tryd.ntmps9
    go_wp2_with fail
    go_ret
    exact ⟨rfl, rfl⟩
  | succ k ih =>
    intro u hu hm n hn w
    subst hn
    by_cases h9 : 9 < u
    · have i1 := ih (u / 10) (by omega) (by omega) ((u : Int) / 10) (by omega) w
      have i2 := ih (u % 10) (by omega) (by omega) ((u : Int) % 10) (by omega) w
      have hst := dec_step (x := u) (by omega)
      have hl1 := dec_len (X := u / 10) (by omega)
      have hone : Lib.decDigits (u % 10) = [UInt8.ofNat (48 + u % 10)] := Lib.decDigits_one (by omega)
      rw [hone] at i2
      have e2 := dg_app (Lib.decDigits (u / 10)) [UInt8.ofNat (48 + u % 10)]
      rw [← hst] at e2
      obtain ⟨y, hy⟩ : ∃ y, UInt8.ofNat (48 + u % 10) = y := ⟨_, rfl⟩
      rw [hy] at i2 e2
      clear hy
      have HI1 := Lib.hid i1
      have HI2 := Lib.hid i2
      have t9 : (9 : Int) < (u : Int) := by omega
      clear i1 i2 hst hone ih
      go_enter Tryd.func9, Tryd.ntmps9
      go_wp2_with fail
      refine HI1.out.mono ?_
      rintro en _ ⟨rfl, rfl⟩
      go_wp2_with fail
      refine HI2.out.mono ?_
      rintro en _ ⟨rfl, rfl⟩
      go_wp2_with fail
      go_ret
      exact ⟨rfl, rfl⟩
    · have e := dg_cut' u (by omega)
      rw [Lib.decDigits_one (by omega)]
      have t9 : ¬ (9 : Int) < (u : Int) := by omega
      have t10 : (u : Int) < 10 := by omega
      have t1 : ((u : Int) + 1).toNat = u + 1 := by omega
      clear ih
      go_enter Tryd.func9, Tryd.ntmps9
      go_wp2_with fail
      go_ret
      exact ⟨rfl, rfl⟩
/-- At most 200 bytes, some left out. -/
def keepL (p : UInt8 → Bool) (s : List UInt8) : List UInt8 := (s.take 200).filter p
def BaS (w0 : World) (p : UInt8 → Bool) (s : List UInt8) (m gk : Nat) (v3 v4 : Value) (wr : World) : Prop :=
  ∃ i, i ≤ m ∧ gk = m - i ∧ v4 = .int .i64 (i : Int) ∧ v3 = .string (strB ((s.take i).filter p)) ∧ w0 = wr
theorem filter_more (p : UInt8 → Bool) {s : List UInt8} {i : Nat} (h : i < s.length) : (s.take (i + 1)).filter p = (s.take i).filter p ++ (if p s[i] = true then [s[i]] else []) := by
  rw [List.take_succ_eq_append_getElem h, List.filter_append]
  congr 1
  by_cases hp : p s[i] = true
  · rw [if_pos hp, List.filter_cons_of_pos hp]; rfl
  · rw [if_neg hp, List.filter_cons_of_neg hp]; rfl
theorem cut_one (s : List UInt8) (i : Nat) (h : i < s.length) : (strB s).extract i (i + 1) = strB [s[i]] := by
  rw [ix_cut, show i + 1 - i = 1 by omega, List.drop_eq_getElem_cons h]
  rfl
set_option maxHeartbeats 2000000 in
theorem bare_calls (w : World) (s : List UInt8) (hs : s.length ≤ 140737488351232) :
    Calls Tryd.prog 12 #[.string (strB s)] w fun en w' => en = .returned (.string (strB (keepL (fun c => !digC c) s))) ∧ w = w' := by
  obtain ⟨B, hB⟩ : ∃ B, strB s = B := ⟨_, rfl⟩
  have hsz : B.size = s.length := by rw [← hB, strB_size]
  have hget : ∀ j, (h : j < s.length) → ∀ h' : j < B.size, (B[j]'h').toNat = s[j].toNat := fun j h h' => by subst hB; rw [strB_getI]
  have hcut := cut_one s
  rw [hB] at hcut ⊢
  obtain ⟨m, hm⟩ : ∃ m, min s.length 200 = m := ⟨_, rfl⟩
  have htk : s.take 200 = s.take m := by
    rw [← hm]
    rcases Nat.le_total s.length 200 with h | h
    · rw [Nat.min_eq_left h, List.take_length, List.take_of_length_le h]
    · rw [Nat.min_eq_right h]
  have hml : m ≤ s.length := by omega
  have hm2 : m ≤ 200 := by omega
  have hm3 : m = s.length ∨ m = 200 := by omega
  have HGET := Lib.hid hget
  have HCUT := Lib.hid hcut
  have HTK := Lib.hid htk
  have HM3 := Lib.hid hm3
  obtain ⟨n, hn⟩ : ∃ n, s.length = n := ⟨_, rfl⟩
  rw [hn] at hsz hml hs
  have HN := Lib.hid hn
  clear hget hcut htk hm hm3 hn hB
  go_enter Tryd.func12, Tryd.ntmps12
  go_wp2_with fail
  go_loopg [3, 4] m (fun gk v3 v4 wr => BaS w (fun c => !digC c) s m gk v3 v4 wr)
  case atStart => exact ⟨0, Nat.zero_le _, rfl, rfl, rfl, rfl⟩
  case round =>
    obtain ⟨i, hi, hgk, rfl, rfl, rfl⟩ := hrel
    have HG := Lib.hid hgk
    clear hgk
    rcases Nat.lt_or_ge i m with hlt | hge
    · have hin : i < s.length := by rw [HN.out]; omega
      have hit : i < n := by omega
      have y0 : i < B.size := by rw [hsz]; exact hit
      have t0 : (i : Int) < (n : Int) := by omega
      have t2 : (i : Int) < 200 := by omega
      have hmore := filter_more (fun c => !digC c) hin
      have hfl : ((s.take i).filter fun c => !digC c).length ≤ 200 := Nat.le_trans (List.length_filter_le _ _) (by rw [List.length_take]; omega)
      have hct := HCUT.out i hin
      obtain ⟨x, hx⟩ : ∃ x : Nat, s[i].toNat = x := ⟨_, rfl⟩
      have i0 : (B[i]'y0).toNat = x := (HGET.out i hin y0).trans hx
      have hdx : digC s[i] = decide (48 ≤ x ∧ x ≤ 57) := by simp only [digC]; rw [hx]
      simp only [hdx] at hmore
      have tc : ((i : Int) + 1).toNat = i + 1 := by omega
      obtain ⟨F, hF⟩ : ∃ F, ((s.take i).filter fun c => !digC c) = F := ⟨_, rfl⟩
      rw [hF] at hfl hmore ⊢
      have e2 := dg_app F [s[i]]
      obtain ⟨y, hy⟩ : ∃ y, s[i] = y := ⟨_, rfl⟩
      rw [hy] at hct e2 hmore
      have hF1 : (F ++ [y]).length ≤ 201 := by rw [List.length_append]; simp only [List.length_cons, List.length_nil]; omega
      clear hx hdx hF hy hin
      by_cases h48 : 48 ≤ x
      · have t3 : ¬ (x : Int) < 48 := by omega
        have t3' : decide ((x : Int) < 48) = false := by simp; omega
        by_cases h57 : x ≤ 57
        · have t4 : ¬ (57 : Int) < (x : Int) := by omega
          have t4' : decide ((57 : Int) < (x : Int)) = false := by simp; omega
          have HMO : Hid ((s.take (i + 1)).filter (fun c => !digC c) = F) := Lib.hid (by rw [hmore, if_neg (by simp [h48, h57])]; simp)
          clear hmore
          go_wp2_with fail
          go_roundg (m - (i + 1))
          case measure => have := HG.out; omega
          case rel => exact ⟨i + 1, hlt, rfl, by go_num, by rw [HMO.out], rfl⟩
        · have t4 : (57 : Int) < (x : Int) := by omega
          have HMO : Hid ((s.take (i + 1)).filter (fun c => !digC c) = F ++ [y]) := Lib.hid (by rw [hmore, if_pos (by simp [h57])])
          clear hmore
          go_wp2_with fail
          go_roundg (m - (i + 1))
          case measure => have := HG.out; omega
          case rel => exact ⟨i + 1, hlt, rfl, by go_num, by rw [HMO.out], rfl⟩
      · have t3 : (x : Int) < 48 := by omega
        have HMO : Hid ((s.take (i + 1)).filter (fun c => !digC c) = F ++ [y]) := Lib.hid (by rw [hmore, if_pos (by simp [h48])])
        clear hmore
        go_wp2_with fail
        go_roundg (m - (i + 1))
        case measure => have := HG.out; omega
        case rel => exact ⟨i + 1, hlt, rfl, by go_num, by rw [HMO.out], rfl⟩
    · obtain rfl : i = m := by omega
      have hres : strB ((s.take i).filter fun c => !digC c) = strB (keepL (fun c => !digC c) s) := by unfold keepL; rw [HTK.out]
      have HRES := Lib.hid hres
      clear hres
      have h3 := HM3.out
      rw [HN.out] at h3
      rcases Nat.lt_or_eq_of_le hml with hlt | heq
      · have t0 : (i : Int) < (n : Int) := by omega
        have t2 : ¬ (i : Int) < 200 := by omega
        have t2' : decide ((i : Int) < 200) = false := by simp; omega
        clear h3
        go_wp2_with fail
        go_ret
        exact ⟨by rw [← HRES.out]; rfl, rfl⟩
      · have t0 : ¬ (i : Int) < (n : Int) := by omega
        have t0' : decide ((i : Int) < (n : Int)) = false := by simp; omega
        have HEQ := Lib.hid heq
        clear h3 heq
        go_wp2_with fail
        go_ret
        exact ⟨by rw [← HRES.out]; rfl, rfl⟩
theorem keep_noDig (s : List UInt8) : noDig (keepL (fun c => !digC c) s) := by
  intro c hc
  have := (List.mem_filter.1 hc).2
  simpa using this
theorem keep_len (p : UInt8 → Bool) (s : List UInt8) : (keepL p s).length ≤ 200 := Nat.le_trans (List.length_filter_le _ _) (List.length_take_le _ _)
end Go.Proofs.YtlbipnfnimekfaaDoor
