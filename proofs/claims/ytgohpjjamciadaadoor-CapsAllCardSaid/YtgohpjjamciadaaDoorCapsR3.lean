/- The reference's Has. -/
import Derived.Test.YtgohpjjamciadaaDoorCapsG
import Derived.BigQuiet
set_option linter.unusedVariables false
set_option linter.unusedSimpArgs false
namespace Go.Proofs.YtgohpjjamciadaaDoor
open Go.RowKit Go.Shelf

set_option maxHeartbeats 1000000 in
set_option maxRecDepth 100000 in
theorem within_calls (w : World) (S : Nat → Prop) (A : Option Addr) (n c : Nat) (xs : List (List UInt8)) (x : List UInt8) (hA : Reads w S A n (strs xs)) (hn : n ≤ 1099511627776) :
    Calls Tryd.prog 30 #[.slice A n c, .string (strB x)] w fun en w' => en = .returned (.bool (xs.contains x)) ∧ w' = w := by
  have hl : xs.length = n := by have := hA.1; rwa [strs_length] at this
  go_enter Tryd.func30, Tryd.ntmps30
  go_wp2_with fail
  go_loopg [5] n (fun gk v5 wr => IxS w xs (fun y => y == x) gk v5 wr)
  case atStart => exact ⟨0, Nat.zero_le _, by omega, rfl, by simp, rfl⟩
  case round =>
    obtain ⟨i, hi, hgk, rfl, hany, rfl⟩ := hrel
    have HG := Lib.hid hgk
    have HA := Lib.hid hA
    have HANY := Lib.hid hany
    clear hgk hA hany
    rcases Nat.lt_or_ge i n with hlt | hge
    · have hli : i < xs.length := by omega
      obtain ⟨ad, u, hA1, hu, hcell⟩ := HA.out.at_ hlt
      subst hA1
      rw [strs_at xs i hli] at hu
      injection hu with hu
      subst hu
      by_cases he : xs[i] = x
      · have hb : (xs[i] == x) = true := by simpa using he
        have hc : xs.contains x = true := by rw [List.contains_iff_mem, ← he]; exact List.getElem_mem hli
        have HC := Lib.hid hc
        clear hc he
        go_wp2_with fail
        go_ret
        exact ⟨by rw [HC.out]; rfl, rfl⟩
      · have hb : (xs[i] == x) = false := beq_eq_false_iff_ne.2 he
        have hn' := any_take xs (fun y => y == x) hli HANY.out (beq_eq_false_iff_ne.2 he)
        have HN := Lib.hid hn'
        clear hn' he
        go_wp2_with fail
        go_roundg (n - (i + 1))
        case measure => have := HG.out; omega
        case rel => exact ⟨i + 1, by omega, by omega, by go_num, HN.out, rfl⟩
    · obtain rfl : i = n := by omega
      have hT : xs.take i = xs := List.take_of_length_le (by omega)
      rw [hT] at HANY
      have hc : xs.contains x = false := by
        rw [Bool.eq_false_iff]
        intro h
        have := List.any_eq_false.1 HANY.out x (List.contains_iff_mem.1 h)
        simp at this
      have HC := Lib.hid hc
      clear hc
      go_wp2_with fail
      go_ret
      exact ⟨by rw [HC.out]; rfl, rfl⟩

def InS (w0 : World) (b0 : Bool) (xs ws : List (List UInt8)) (gk : Nat) (v7 v8 : Value) (wr : World) : Prop :=
  ∃ k, k ≤ ws.length ∧ gk = ws.length - k ∧ v7 = .bool (b0 && (ws.take k).all fun x => xs.contains x) ∧ v8 = .int .i64 ((k : Int) + 1) ∧ Kept w0 wr NoB

set_option maxHeartbeats 4000000 in
set_option maxRecDepth 100000 in
theorem refHas_calls (w : World) (S : Nat → Prop) (A : Option Addr) (n c : Nat) (l : List CapV) (want : List UInt8) (hA : CapsR w S A n l) (hn : n ≤ 1099511627776) (hw : want.length ≤ 1099511627) (hl2 : ∀ x ∈ l, x.2.length ≤ 1099511627776) :
    Calls Tryd.prog 15 #[.slice A n c, .string (strB want)] w fun en w' => en = .returned (.bool (hasL l want)) ∧ Kept w w' NoB := by
  have hl : l.length = n := hA.1
  go_enter Tryd.func15, Tryd.ntmps15
  go_wp2_with fail
  refine (refUpper_calls w want (by omega)).mono ?_
  rintro en w1 ⟨rfl, hk1⟩
  go_wp2_with fail
  refine (refWords_calls w1 (upL want) (by rw [upL_length]; omega)).mono ?_
  rintro en w2 ⟨v, rfl, hrow, hk2⟩
  obtain ⟨ws, hws⟩ : ∃ ws, wordsL (upL want) = ws := ⟨_, rfl⟩
  have hhas : hasL l want = hasW l ws := by unfold hasL; rw [hws]
  rw [hws] at hrow
  have HH := Lib.hid hhas
  obtain ⟨B, d, rfl, hd, hB⟩ := hrow.readsN (n := ws.length) (strs_length _)
  have HK2 := Lib.hid (hk1.trans' hk2)
  have HA2 := Lib.hid (hA.kept0 (hk1.trans' hk2))
  have HB := Lib.hid hB
  have hwsl : ws.length ≤ 1099511627776 := by
    have := words_len want
    rw [hws] at this
    omega
  clear hrow hk1 hk2 hA hws hhas hB
  rcases ws with _ | ⟨w0, ws⟩
  · go_wp2_with fail
    go_ret
    exact ⟨by rw [HH.out]; rfl, HK2.out⟩
  · have t0 : (((ws.length + 1 : Nat) : Int) == 0) = false := by rw [beq_eq_false_iff_ne]; omega
    simp only [List.length_cons] at hd hwsl ⊢
    have e : hasL l want = l.any (fun c => hasC c w0 ws) := HH.out
    have HE := Lib.hid e
    clear e
    go_wp2_with fail
    go_loopg [6, 7, 8, 9] n (fun gk v6 v7 v8 v9 wr => JxS w2 l (fun c => hasC c w0 ws) gk v6 wr)
    case atStart => exact ⟨0, Nat.zero_le _, by omega, rfl, by simp, Kept.refl _ _⟩
    case round =>
      obtain ⟨i, hi, hgk, rfl, hany, hkr⟩ := hrel
      have HG := Lib.hid hgk
      have HAr := Lib.hid (HA2.out.kept0 hkr)
      have HBr := Lib.hid (HB.out.kept0 hkr)
      have HKR := Lib.hid hkr
      have HANY := Lib.hid hany
      clear hgk hany hkr
      rcases Nat.lt_or_ge i n with hlt | hge
      · have hli : i < l.length := by omega
        obtain ⟨ad, X, x, xc, hA1, hab, hcell0, hcell1, hxc, hX⟩ := HAr.out.at_ hlt hli
        subst hA1
        obtain ⟨bd, u, hB1, hu, hcellB⟩ := HBr.out.at_ (k := 0) (by simp)
        subst hB1
        rw [strs_at (w0 :: ws) 0 (by simp)] at hu
        injection hu with hu
        subst hu
        rw [add_zero_] at hcellB
        simp only [List.getElem_cons_zero] at hcellB
        have hxl : x ≤ 1099511627776 := by
          have h1 := hX.1
          rw [strs_length] at h1
          have h2 := hl2 l[i] (List.getElem_mem hli)
          omega
        have HX := Lib.hid hX
        clear hX
        obtain ⟨p, hp⟩ : ∃ p, l[i] = p := ⟨_, rfl⟩
        obtain ⟨p1, p2⟩ := p
        rw [hp] at hcell0 HX
        have HP := Lib.hid hp
        obtain ⟨b0, hb0⟩ : ∃ b, (p1 == w0) = b := ⟨_, rfl⟩
        have t1 : (0 : Int) < (ws.length : Int) + 1 := by omega
        have tin : (i : Int) < (n : Int) := by omega
        have HB0 := Lib.hid hb0
        clear hp
        go_wp2_with fail
        go_quiet (fail)
        go_wp2_with fail
        go_loopg [7, 8, 9] ws.length (fun gk v7 v8 v9 wr' => InS wr b0 p2 ws gk v7 v8 wr')
        case atStart => exact ⟨0, Nat.zero_le _, rfl, by simp, rfl, by first | exact (Kept.refl _ _).drewN _ | exact ((Kept.refl _ _).drewN _).drewN _⟩
        case round =>
          obtain ⟨k, hk, hgk2, rfl, rfl, hkr2⟩ := hrel
          have HG2 := Lib.hid hgk2
          have HKR2 := Lib.hid hkr2
          have HXr := Lib.hid (HX.out.kept0 hkr2)
          have HBr2 := Lib.hid (HBr.out.kept0 hkr2)
          have c1 := hkr2.cell hcell1 (fun x => x)
          obtain ⟨a, ha⟩ : ∃ a, (b0 && (ws.take k).all fun x => p2.contains x) = a := ⟨_, rfl⟩
          rw [ha]
          clear hgk2 hkr2
          rcases Nat.lt_or_ge k ws.length with hlt2 | hge2
          · obtain ⟨bd', u, hB1, hu, hcB⟩ := HBr2.out.at_ (k := k + 1) (by simp; omega)
            injection hB1 with hB1
            subst hB1
            rw [strs_at (w0 :: ws) (k + 1) (by simp; omega)] at hu
            injection hu with hu
            subst hu
            rw [add_succ_] at hcB
            simp only [List.getElem_cons_succ] at hcB
            have tk : (k : Int) + 1 < (ws.length : Int) + 1 := by omega
            have hcall := fun j => within_calls (wr.drewN j) S X x xc p2 ws[k] (HXr.out.drewN j) hxl
            obtain ⟨b, hb⟩ : ∃ b, p2.contains ws[k] = b := ⟨_, rfl⟩
            rw [hb] at hcall
            have HCALL := Lib.hid hcall
            have hnext : (b0 && (ws.take (k + 1)).all fun x => p2.contains x) = (a && b) := by
              rw [List.take_succ_eq_append_getElem hlt2, List.all_append, ← ha, ← Bool.and_assoc]
              congr 1
              rw [List.all_cons, List.all_nil, Bool.and_true, hb]
            have HN := Lib.hid hnext
            clear hcall hnext ha hb
            go_wp2_with fail
            go_quiet (exact Calls.quiet_of_same (HCALL.out _))
            cases a <;> cases b
            all_goals
              go_wp2_with fail
              go_roundg (ws.length - (k + 1))
              case measure => have := HG2.out; omega
              case rel => exact ⟨k + 1, hlt2, rfl, by rw [HN.out]; rfl, by go_num, by first | exact HKR2.out.drewN _ | exact (HKR2.out.drewN _).drewN _⟩
          · obtain rfl : k = ws.length := by omega
            rw [List.take_length] at ha
            have hres : hasC l[i] w0 ws = a := by rw [HP.out, ← ha, ← HB0.out]; rfl
            have HRES := Lib.hid hres
            have tk : ¬ ((ws.length : Int) + 1 < (ws.length : Int) + 1) := by omega
            clear hres ha
            cases a
            · have hn' := any_take l (fun c => hasC c w0 ws) hli HANY.out HRES.out
              have HN := Lib.hid hn'
              clear hn'
              go_wp2_with fail
              go_roundg (n - (i + 1))
              case measure => have := HG.out; omega
              case rel => exact ⟨i + 1, by omega, by omega, by go_num, HN.out, HKR.out.trans' HKR2.out⟩
            · have hc := any_hit l (fun c => hasC c w0 ws) hli HRES.out
              have HC := Lib.hid hc
              clear hc
              go_wp2_with fail
              go_ret
              exact ⟨by rw [HE.out, HC.out]; rfl, (HK2.out.trans' HKR.out).trans' HKR2.out⟩
      · obtain rfl : i = n := by omega
        have hT : l.take i = l := List.take_of_length_le (by omega)
        rw [hT] at HANY
        go_wp2_with fail
        go_ret
        exact ⟨by rw [HE.out, HANY.out]; rfl, HK2.out.trans' HKR.out⟩
end Go.Proofs.YtgohpjjamciadaaDoor
