/- caps: the laws' helpers: bare, short, letters. -/
import Derived.Test.YtgohpjjamciadaaDoorCapsU
set_option linter.unusedVariables false
set_option linter.unusedSimpArgs false
namespace Go.Proofs.YtgohpjjamciadaaDoor
open Go.RowKit Go.Shelf

theorem strB_append (l m : List UInt8) : strB l ++ strB m = strB (l ++ m) := by
  apply ByteArray.ext
  simp [strB]
theorem take1_drop {l : List UInt8} {i : Nat} (h : i < l.length) : (l.drop i).take (i + 1 - i) = [l[i]] := by
  rw [List.drop_eq_getElem_cons h, show i + 1 - i = 1 by omega]
  rfl
theorem short_calls (w : World) (l : List UInt8) (hl : l.length ≤ 9223372036854775807) :
    Calls Tryd.prog 10 #[.string (strB l)] w fun en w' => en = .returned (.string (strB (l.take 200))) ∧ w' = w := by
  go_enter Tryd.func10, Tryd.ntmps10
  by_cases h : (200 : Int) < (l.length : Int)
  · have he := strB_cut l 0 200
    simp only [List.drop_zero, Nat.sub_zero] at he
    have hz : 200 ≤ l.length := by omega
    go_wp2_with fail
    go_ret
    exact ⟨rfl, rfl⟩
  · have ht : l.take 200 = l := List.take_of_length_le (by omega)
    rw [ht]
    go_wp2_with fail
    go_ret
    exact ⟨rfl, rfl⟩

/-- Neither a CR nor an LF. -/
def bareC (c : UInt8) : Bool := c != 13 && c != 10
def BareS (w0 : World) (l : List UInt8) (gk : Nat) (v3 v4 : Value) (wr : World) : Prop :=
  ∃ (i : Nat) (out : List UInt8), i ≤ l.length ∧ i ≤ 200 ∧ gk = 200 - i ∧ v3 = .string (strB out) ∧ v4 = .int .i64 (i : Int) ∧ out.length ≤ i ∧ (∀ x ∈ out, bareC x = true) ∧ Kept w0 wr NoB

set_option maxHeartbeats 1000000 in
set_option maxRecDepth 100000 in
theorem bare_calls (w : World) (l : List UInt8) (hl : l.length ≤ 140737488351232) :
    Calls Tryd.prog 17 #[.string (strB l)] w fun en w' => ∃ out : List UInt8, en = .returned (.string (strB out)) ∧ out.length ≤ 200 ∧ (∀ x ∈ out, bareC x = true) ∧ Kept w w' NoB := by
  go_enter Tryd.func17, Tryd.ntmps17
  go_wp2_with fail
  go_loopg [3, 4] 200 (fun gk v3 v4 wr => BareS w l gk v3 v4 wr)
  case atStart => exact ⟨0, [], Nat.zero_le _, Nat.zero_le _, rfl, rfl, rfl, Nat.le_refl _, by simp, Kept.refl _ _⟩
  case round =>
    obtain ⟨i, out, hi, hi2, hgk, rfl, rfl, hol, hall, hkr⟩ := hrel
    have HG := Lib.hid hgk
    have HALL := Lib.hid hall
    have HKR := Lib.hid hkr
    clear hgk hall hkr
    by_cases hlt : i < l.length ∧ i < 200
    · obtain ⟨hlt, h200⟩ := hlt
      have t200 : (i : Int) < 200 := by omega
      obtain ⟨x, hx⟩ : ∃ x : Nat, l[i].toNat = x := ⟨_, rfl⟩
      have hx' : ((strB l)[i]'(by rw [strB_size]; exact hlt)).toNat = x := by rw [strB_getI]; exact hx
      by_cases hc : x ≠ 13 ∧ x ≠ 10
      · have n13 : ((x : Int) != 13) = true := by rw [bne_iff_ne]; omega
        have n10 : ((x : Int) != 10) = true := by rw [bne_iff_ne]; omega
        have hcut := strB_cut l i (i + 1)
        rw [take1_drop hlt] at hcut
        have happ := strB_append out [l[i]]
        have hb : bareC l[i] = true := by
          unfold bareC
          rw [Bool.and_eq_true, bne_iff_ne, bne_iff_ne]
          refine ⟨fun e => hc.1 ?_, fun e => hc.2 ?_⟩
          · rw [← hx, e]; rfl
          · rw [← hx, e]; rfl
        have HB := Lib.hid hb
        have t63 : ¬ (9223372036854775807 < out.length + 1) := by omega
        clear hb hc
        go_wp2_with fail
        go_roundg (200 - (i + 1))
        case measure => have := HG.out; omega
        case rel =>
          refine ⟨i + 1, out ++ [l[i]], hlt, by omega, rfl, by first | rfl | rw [strB_append], by go_num, by simp; omega, ?_, HKR.out⟩
          intro y hy
          rcases List.mem_append.1 hy with h | h
          · exact HALL.out y h
          · rw [List.mem_singleton.1 h]; exact HB.out
      · have hor : x = 13 ∨ x = 10 := by omega
        rcases hor with rfl | rfl
        all_goals
          clear hc
          go_wp2_with fail
          go_roundg (200 - (i + 1))
          case measure => have := HG.out; omega
          case rel => exact ⟨i + 1, out, hlt, by omega, rfl, rfl, by go_num, by omega, HALL.out, HKR.out⟩
    · rcases Nat.lt_or_ge i l.length with h1 | h1
      · have t200 : ¬ ((i : Int) < 200) := by omega
        go_wp2_with fail
        go_ret
        exact ⟨out, rfl, by omega, HALL.out, HKR.out⟩
      · have t1 : ¬ ((i : Int) < (l.length : Int)) := by omega
        go_wp2_with fail
        go_ret
        exact ⟨out, rfl, by omega, HALL.out, HKR.out⟩

/-- A letter A to Z. -/
def capC (c : UInt8) : Bool := decide (65 ≤ c.toNat ∧ c.toNat ≤ 90)
def LetS (w0 : World) (l : List UInt8) (gk : Nat) (v3 v4 : Value) (wr : World) : Prop :=
  ∃ (i : Nat) (out : List UInt8), i ≤ l.length ∧ gk = l.length - i ∧ v3 = .string (strB out) ∧ v4 = .int .i64 (i : Int) ∧ out.length ≤ 12 ∧ (∀ x ∈ out, capC x = true) ∧ Kept w0 wr NoB

set_option maxHeartbeats 1000000 in
set_option maxRecDepth 100000 in
theorem letters_calls (w : World) (l : List UInt8) (hl : l.length ≤ 140737488351232) :
    Calls Tryd.prog 19 #[.string (strB l)] w fun en w' => ∃ out : List UInt8, en = .returned (.string (strB out)) ∧ out.length ≤ 12 ∧ (∀ x ∈ out, capC x = true) ∧ Kept w w' NoB := by
  go_enter Tryd.func19, Tryd.ntmps19
  go_wp2_with fail
  go_loopg [3, 4] l.length (fun gk v3 v4 wr => LetS w l gk v3 v4 wr)
  case atStart => exact ⟨0, [], Nat.zero_le _, rfl, rfl, rfl, Nat.zero_le _, by simp, Kept.refl _ _⟩
  case round =>
    obtain ⟨i, out, hi, hgk, rfl, rfl, hol, hall, hkr⟩ := hrel
    have HG := Lib.hid hgk
    have HALL := Lib.hid hall
    have HKR := Lib.hid hkr
    clear hgk hall hkr
    rcases Nat.lt_or_ge i l.length with hlt | h1
    · rcases Nat.lt_or_ge out.length 12 with h12 | h12
      · have t12 : (out.length : Int) < 12 := by omega
        obtain ⟨x, hx⟩ : ∃ x : Nat, l[i].toNat = x := ⟨_, rfl⟩
        have hx' : ((strB l)[i]'(by rw [strB_size]; exact hlt)).toNat = x := by rw [strB_getI]; exact hx
        by_cases hc : 65 ≤ x ∧ x ≤ 90
        · have n13 : (65 : Int) ≤ (x : Int) := by omega
          have n10 : (x : Int) ≤ 90 := by omega
          have hcut := strB_cut l i (i + 1)
          rw [take1_drop hlt] at hcut
          have happ := strB_append out [l[i]]
          have hb : capC l[i] = true := by
            unfold capC
            rw [hx]
            simpa using hc
          have HB := Lib.hid hb
          have t63 : ¬ (9223372036854775807 < out.length + 1) := by omega
          clear hb hc
          go_wp2_with fail
          go_roundg (l.length - (i + 1))
          case measure => have := HG.out; omega
          case rel =>
            refine ⟨i + 1, out ++ [l[i]], hlt, rfl, by first | rfl | rw [strB_append], by go_num, by simp; omega, ?_, HKR.out⟩
            intro y hy
            rcases List.mem_append.1 hy with h | h
            · exact HALL.out y h
            · rw [List.mem_singleton.1 h]; exact HB.out
        · rcases Nat.lt_or_ge x 65 with h2 | h2
          · have n13 : ¬ (65 : Int) ≤ (x : Int) := by omega
            clear hc
            go_wp2_with fail
            go_roundg (l.length - (i + 1))
            case measure => have := HG.out; omega
            case rel => exact ⟨i + 1, out, hlt, rfl, rfl, by go_num, by omega, HALL.out, HKR.out⟩
          · have n13 : (65 : Int) ≤ (x : Int) := by omega
            have n10 : ¬ (x : Int) ≤ 90 := by omega
            clear hc
            go_wp2_with fail
            go_roundg (l.length - (i + 1))
            case measure => have := HG.out; omega
            case rel => exact ⟨i + 1, out, hlt, rfl, rfl, by go_num, by omega, HALL.out, HKR.out⟩
      · have t12 : ¬ ((out.length : Int) < 12) := by omega
        go_wp2_with fail
        go_ret
        exact ⟨out, rfl, hol, HALL.out, HKR.out⟩
    · have t1 : ¬ ((i : Int) < (l.length : Int)) := by omega
      go_wp2_with fail
      go_ret
      exact ⟨out, rfl, hol, HALL.out, HKR.out⟩
end Go.Proofs.YtgohpjjamciadaaDoor
