/- Texts: capitals and words, of the program and of the reference: what they compute. -/
import Derived.Test.YtakfkccljkilnaaDoorCapsP
import Derived.Test.YtakfkccljkilnaaDoorProg
import Derived.KernelRfl
set_option linter.unusedVariables false
set_option linter.unusedSimpArgs false
namespace Go.Proofs.YtakfkccljkilnaaDoor
open Go.RowKit

theorem strB_cut (L : List UInt8) (i j : Nat) : (strB L).extract i j = strB ((L.drop i).take (j - i)) := by
  apply ByteArray.ext
  simp [strB, ByteArray.data_extract, List.extract_toArray, List.extract_eq_take_drop]
theorem strB_of (s : ByteArray) : ∃ l, s = strB l ∧ l.length = s.size := ⟨s.data.toList, (strB_data s).symm, by rw [Array.length_toList]; rfl⟩
theorem strB_getI (l : List UInt8) (i : Nat) (h : i < (strB l).size) : (strB l)[i] = l[i]'(by rwa [strB_size] at h) := by
  rfl

/-! ### A buffer: a block's first cells are bytes, and may be written -/
structure Buf (w : World) (g : Nat) (l : List UInt8) : Prop where
  lt : g < w.heap.size
  cell : ∀ j (h : j < l.length), w.cell? ⟨g, j, none⟩ = some (.int .u8 (l[j].toNat : Int))
  free : ∀ j, j < l.length → w.frozen? ⟨g, j, none⟩ = false
theorem Buf.set_ {w : World} {g : Nat} {l : List UInt8} (h : Buf w g l) {i : Nat} (hi : i < l.length) (c : UInt8) {v : Value} (hv : v = .int .u8 (c.toNat : Int)) : Buf (w.setCell ⟨g, i, none⟩ v) g (l.set i c) := by
  subst hv
  refine ⟨by simpa [World.setCell] using h.lt, fun j hj => ?_, fun j hj => ?_⟩
  · have hj' : j < l.length := by simpa using hj
    by_cases e : i = j
    · subst e
      rw [World.cell?_setCell_same _ _ _ (h.cell i hi)]
      simp
    · rw [World.cell?_setCell_other _ _ _ _ (by intro e'; injection e' with _ e'; exact e e'), h.cell j hj']
      simp [List.getElem_set, e]
  · rw [World.frozen?_setCell]
    exact h.free j (by simpa using hj)
theorem Buf.reads {w : World} {g : Nat} {l : List UInt8} (h : Buf w g l) : Reads w (fun k => k = g) (some ⟨g, 0, none⟩) l.length (b8s l) := by
  refine ⟨b8s_length l, fun hn => ⟨_, rfl, rfl, h.lt, fun j u hu => ?_⟩⟩
  have hj : j < l.length := by
    rcases Nat.lt_or_ge j l.length with h1 | h1
    · exact h1
    · rw [List.getElem?_eq_none (by rw [b8s_length]; exact h1)] at hu; cases hu
  rw [b8s_at l j hj] at hu
  injection hu with hu
  rw [add_lit0, h.cell j hj, hu]
theorem Buf.bytesW (w : World) (e : TypeId) (l : List UInt8) : Buf (Lib.bytesWorld w e (strB l)) w.heap.size l := by
  refine ⟨by rw [Lib.bytesWorld_size]; omega, fun j hj => ?_, fun j hj => ?_⟩
  · rw [Lib.bytesWorld_cell w e (strB l) j (by rw [strB_size]; exact hj), strB_toList, List.getD_eq_getElem?_getD, List.getElem?_eq_getElem hj]
    rfl
  · unfold World.frozen?
    simp only [Lib.bytesWorld_at_new]
    have : j < (Lib.bytesCells w e (strB l)).size := by
      simp [Lib.bytesCells, strB]
      omega
    simp
    omega

/-! ### Capitals -/
def upB (l : List UInt8) (i : Nat) : List UInt8 := upL (l.take i) ++ l.drop i
theorem upB_zero (l : List UInt8) : upB l 0 = l := by simp [upB, upL]
theorem upB_all (l : List UInt8) : upB l l.length = upL l := by simp [upB]
theorem upB_length (l : List UInt8) {i : Nat} (h : i ≤ l.length) : (upB l i).length = l.length := by simp [upB, upL]; omega
theorem upB_at (l : List UInt8) {i : Nat} (h : i < l.length) (h' : i < (upB l i).length) : (upB l i)[i] = l[i] := by
  simp [upB, upL, List.getElem_append_right, Nat.min_eq_left (Nat.le_of_lt h)]
theorem upB_succ (l : List UInt8) {i : Nat} (h : i < l.length) : upB l (i + 1) = (upB l i).set i (upC l[i]) := by
  have h1 : (upL (l.take i)).length = i := by rw [upL_length, List.length_take]; omega
  have h2 : l.drop i = l[i] :: l.drop (i + 1) := List.drop_eq_getElem_cons h
  unfold upB
  rw [List.take_succ_eq_append_getElem h, upL_append, List.set_append_right _ _ (by omega), h1, h2, Nat.sub_self, List.set_cons_zero]
  simp [upL]
theorem upB_same (l : List UInt8) {i : Nat} (h : i < l.length) (hs : upC l[i] = l[i]) : upB l (i + 1) = upB l i := by
  rw [upB_succ l h, hs]
  apply List.ext_getElem (by simp)
  intro j h1 h2
  rw [List.getElem_set]
  split
  · rename_i e
    subst e
    exact (upB_at l h _).symm
  · rfl
theorem upC_in {c : UInt8} {x : Nat} (h : c.toNat = x) (h1 : 97 ≤ x) (h2 : x ≤ 122) : ((upC c).toNat : Int) = (x : Int) - 32 := by
  unfold upC
  rw [if_pos ⟨by omega, by omega⟩, UInt8.toNat_sub_of_le _ _ (by rw [UInt8.le_iff_toNat_le]; show 32 ≤ _; omega)]
  show ((c.toNat - 32 : Nat) : Int) = _
  omega
theorem upC_out {c : UInt8} {x : Nat} (h : c.toNat = x) (h1 : ¬ (97 ≤ x ∧ x ≤ 122)) : upC c = c := if_neg (by omega)

def UpS (w0 : World) (l : List UInt8) (gk : Nat) (v : Value) (wr : World) : Prop :=
  ∃ i, i ≤ l.length ∧ gk = l.length - i ∧ v = .int .i64 (i : Int) ∧ Buf wr w0.heap.size (upB l i) ∧ Kept w0 wr NoB

set_option maxHeartbeats 1000000 in
set_option maxRecDepth 100000 in
theorem upper_calls (w : World) (l : List UInt8) (hl : l.length ≤ 1099511627776) :
    Calls Tryd.prog 15 #[.string (strB l)] w fun en w' => en = .returned (.string (strB (upL l))) ∧ Kept w w' NoB := by
  have kc := fun (w : World) (s : ByteArray) => Lib.run_convert_string_bytes (P := Tryd.prog) w 9 45 5 s (u := .string) Tryd.underlying9 Tryd.underlying45 Tryd.underlying5
  go_enter Tryd.func15, Tryd.ntmps15
  go_wp2_with fail
  have hB := Buf.bytesW w 5 l
  have hK : Kept w (Lib.bytesWorld w 5 (strB l)) NoB := (Kept.refl _ _).bytesW _ _
  go_loopg [4, 5, 10] l.length (fun gk v4 v5 v10 wr => UpS w l gk v10 wr)
  case atStart =>
    exact ⟨0, Nat.zero_le _, rfl, rfl, by rw [upB_zero]; exact hB, hK⟩
  case round =>
    obtain ⟨i, hi, hgk, rfl, hb, hkr⟩ := hrel
    have HG := Lib.hid hgk
    have HKR := Lib.hid hkr
    have HB := Lib.hid hb
    clear hgk hkr hB hK hb
    rcases Nat.lt_or_ge i l.length with hlt | hge
    · have hup := upB_length l (Nat.le_of_lt hlt)
      have hcell := HB.out.cell i (by rw [hup]; exact hlt)
      rw [upB_at l hlt] at hcell
      have hfree := HB.out.free i (by rw [hup]; exact hlt)
      obtain ⟨x, hx⟩ : ∃ x : Nat, l[i].toNat = x := ⟨_, rfl⟩
      rw [hx] at hcell
      have hx8 : x < 256 := by rw [← hx]; exact l[i].toNat_lt
      have HX := Lib.hid hx
      have HUP := Lib.hid hup
      clear hx hup
      have hblk : w.heap.size < wr.heap.size := HB.out.lt
      by_cases h1 : 97 ≤ x ∧ x ≤ 122
      · have t1 : (97 : Int) ≤ (x : Int) := by omega
        have t2 : (x : Int) ≤ 122 := by omega
        have hin := upC_in HX.out h1.1 h1.2
        have HIN := Lib.hid hin
        clear hin
        go_wp2_with fail
        go_roundg (l.length - (i + 1))
        case measure => have := HG.out; omega
        case rel =>
          refine ⟨i + 1, hlt, rfl, by go_num, ?_, HKR.out.setCell (.inr (Nat.le_refl _)) _⟩
          rw [upB_succ l hlt]
          exact HB.out.set_ (by rw [HUP.out]; exact hlt) _ (by rw [HIN.out])
      · have hsame := upB_same l hlt (upC_out HX.out h1)
        have HS := Lib.hid hsame
        clear hsame
        rcases Nat.lt_or_ge x 97 with h2 | h2
        · have t1 : ¬ (97 : Int) ≤ (x : Int) := by omega
          go_wp2_with fail
          go_roundg (l.length - (i + 1))
          case measure => have := HG.out; omega
          case rel => exact ⟨i + 1, hlt, rfl, by go_num, by rw [HS.out]; exact HB.out, HKR.out⟩
        · have t1 : (97 : Int) ≤ (x : Int) := by omega
          have t2 : ¬ (x : Int) ≤ 122 := by omega
          go_wp2_with fail
          go_roundg (l.length - (i + 1))
          case measure => have := HG.out; omega
          case rel => exact ⟨i + 1, hlt, rfl, by go_num, by rw [HS.out]; exact HB.out, HKR.out⟩
    · obtain rfl : i = l.length := by omega
      have hrd := HB.out.reads
      rw [upB_all, upL_length] at hrd
      have hcv := fun c => hrd.string 45 5 9 Tryd.underlying45 Tryd.underlying5 Tryd.underlying9 c
      clear hrd
      go_wp2_with fail
      go_ret
      exact ⟨rfl, HKR.out⟩
end Go.Proofs.YtakfkccljkilnaaDoor
