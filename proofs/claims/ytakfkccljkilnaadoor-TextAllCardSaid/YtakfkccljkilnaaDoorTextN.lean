/- Texts: what can be printed, what stands in a text, numbers: what they compute. -/
import Derived.Test.YtakfkccljkilnaaDoorTextW2
import Derived.Test.YtakfkccljkilnaaDoorTextP
import Derived.Test.YtakfkccljkilnaaDoorShN
set_option linter.unusedVariables false
set_option linter.unusedSimpArgs false
namespace Go.Proofs.YtakfkccljkilnaaDoor
open Go.RowKit Go.Shelf

theorem decode_asciiL (l : List UInt8) (i : Nat) (h : i < l.length) (ha : l[i].toNat < 128) : Utf8.decode (strB l) i = (l[i].toNat, 1) := by
  have := decode_ascii (strB l) i (by rw [strB_size]; exact h) (by rw [strB_getI]; exact ha)
  rwa [strB_getI] at this
theorem decode_bigL (l : List UInt8) (i : Nat) (h : i < l.length) (ha : 128 ≤ l[i].toNat) : 128 ≤ (Utf8.decode (strB l) i).1 :=
  decode_big (strB l) i (by rw [strB_size]; exact h) (by rw [strB_getI]; exact ha)
theorem Kept.iter {a w : World} {S : Nat → Prop} (h : Kept a w S) (s : ByteArray) (p : Nat) : Kept a (w.iter s p) S := h.alloc _

def PlS (w0 : World) (l : List UInt8) (p : UInt8 → Bool) (gk : Nat) (wr : World) : Prop :=
  ∃ i, i ≤ l.length ∧ gk = l.length - i ∧ wr = w0.iter (strB l) i ∧ (l.take i).all p = true
theorem all_take {l : List UInt8} {p : UInt8 → Bool} {i : Nat} (h : i < l.length) (h0 : (l.take i).all p = true) (h1 : p l[i] = true) : (l.take (i + 1)).all p = true := by
  rw [List.take_succ_eq_append_getElem h, List.all_append, h0]
  simp [h1]
theorem all_miss {l : List UInt8} {p : UInt8 → Bool} {i : Nat} (h : i < l.length) (h1 : p l[i] = false) : l.all p = false := by
  rw [List.all_eq_false]
  exact ⟨_, List.getElem_mem h, by simp [h1]⟩

set_option maxHeartbeats 1000000 in
set_option maxRecDepth 100000 in
theorem plain_calls (w : World) (l : List UInt8) (hl : l.length ≤ 1099511627776) :
    Calls Tryd.prog 17 #[.string (strB l)] w fun en w' => en = .returned (.bool (prL l)) ∧ Kept w w' NoB := by
  go_enter Tryd.func17, Tryd.ntmps17
  go_wp2_with fail
  go_loopg [4] l.length (fun gk v4 wr => PlS w l prC gk wr)
  case atStart => exact ⟨0, Nat.zero_le _, rfl, rfl, rfl⟩
  case round =>
    obtain ⟨i, hi, hgk, rfl, hall⟩ := hrel
    have HG := Lib.hid hgk
    have HALL := Lib.hid hall
    clear hgk hall
    rcases Nat.lt_or_ge i l.length with hlt | hge
    · have hnx := fun ty => run_next_any (P := Tryd.prog) w (strB l) i ty (by rw [strB_size]; exact hlt)
      obtain ⟨r, d, hrd⟩ : ∃ r d, Utf8.decode (strB l) i = (r, d) := ⟨_, _, rfl⟩
      simp only [hrd] at hnx
      rcases Nat.lt_or_ge l[i].toNat 128 with hasc | hbig
      · have hd := decode_asciiL l i hlt hasc
        rw [hd] at hrd
        injection hrd with h1 h2
        subst h1 h2
        by_cases hc : 32 ≤ l[i].toNat ∧ l[i].toNat ≤ 126
        · have hp : prC l[i] = true := by unfold prC; simpa using hc
          have hall' := all_take hlt HALL.out hp
          have HA := Lib.hid hall'
          obtain ⟨x, hx⟩ : ∃ x, l[i].toNat = x := ⟨_, rfl⟩
          rw [hx] at hnx hc
          have t1 : ¬ ((x : Int) < 32) := by omega
          have t2 : ¬ ((126 : Int) < (x : Int)) := by omega
          clear hall' hp hd hc hx hasc
          go_wp2_with fail
          go_roundg (l.length - (i + 1))
          case measure => have := HG.out; omega
          case rel => exact ⟨i + 1, hlt, rfl, rfl, HA.out⟩
        · have hp : prC l[i] = false := by unfold prC; simpa using hc
          have hres : prL l = false := all_miss hlt hp
          have HR := Lib.hid hres
          obtain ⟨x, hx⟩ : ∃ x, l[i].toNat = x := ⟨_, rfl⟩
          rw [hx] at hnx hc
          clear hp hd hx hasc hres
          rcases Nat.lt_or_ge x 32 with h3 | h3
          · have t1 : ((x : Int) < 32) := by omega
            go_wp2_with fail
            go_ret
            exact ⟨by rw [HR.out]; rfl, (Kept.refl _ _).iter _ _⟩
          · have t1 : ¬ ((x : Int) < 32) := by omega
            have t2 : ((126 : Int) < (x : Int)) := by omega
            go_wp2_with fail
            go_ret
            exact ⟨by rw [HR.out]; rfl, (Kept.refl _ _).iter _ _⟩
      · have hb := decode_bigL l i hlt hbig
        rw [hrd] at hb
        have hp : prC l[i] = false := by unfold prC; simp; omega
        have hres : prL l = false := all_miss hlt hp
        have HR := Lib.hid hres
        have hb' : 128 ≤ r := hb
        have t1 : ¬ ((r : Int) < 32) := by omega
        have t2 : ((126 : Int) < (r : Int)) := by omega
        clear hp hres hrd hbig hb
        go_wp2_with fail
        go_ret
        exact ⟨by rw [HR.out]; rfl, (Kept.refl _ _).iter _ _⟩
    · obtain rfl : i = l.length := by omega
      have hnx := fun ty => run_next_end (P := Tryd.prog) w (strB l) l.length ty (by rw [strB_size]; omega)
      have hres : prL l = true := by
        have := HALL.out
        rwa [List.take_length] at this
      have HR := Lib.hid hres
      clear hres
      go_wp2_with fail
      go_ret
      exact ⟨by rw [HR.out]; rfl, (Kept.refl _ _).iter _ _⟩
end Go.Proofs.YtakfkccljkilnaaDoor
