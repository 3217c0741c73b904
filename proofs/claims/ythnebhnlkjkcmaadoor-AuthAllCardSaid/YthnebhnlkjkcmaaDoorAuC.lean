/- A greeting's stamp: what the program tells. -/
import Derived.Test.YthnebhnlkjkcmaaDoorCutP
import Derived.Test.YthnebhnlkjkcmaaDoorShA
import Derived.Shelf.Vars
import Derived.MapKept
set_option linter.unusedVariables false
set_option linter.unusedSimpArgs false
namespace Go.Proofs.YthnebhnlkjkcmaaDoor
open Go.RowKit Go.Shelf

/-- internal/bytealg.MaxLen holds some number. -/
def MaxI (w : World) : Prop := ∃ m, w.cell? ⟨0, 0, none⟩ = some (.int .i64 m)
theorem MaxI.kept0 {w w' : World} (h : MaxI w) (k : Kept w w' NoB) : MaxI w' := by
  obtain ⟨m, hm⟩ := h
  exact ⟨m, k.cell hm fun x => x⟩
theorem MaxI.of_shape {w : World} (h : w.ShapedOpen Tryd.prog) : MaxI w :=
  cell_of_shapedOpen_int (P := Tryd.prog) (g := 0) (t := 3) (zero := #[.int .i64 0]) h (of_decide_eq_true (by kernel_rfl)) (by kernel_rfl) rfl (by kernel_rfl) (by kernel_rfl) Tryd.underlying3
theorem cut_calls (w : World) (l : List UInt8) (x : UInt8) (X : ByteArray) (hX : X = strB [x]) (hl : l.length ≤ 1099511627) (hm : MaxI w) :
    Calls Tryd.prog 21 #[.string (strB l), .string X] w fun en w' => en = .returned (.tuple #[.string (strB (cutX x l).1), .string (strB (cutX x l).2.1), .bool (cutX x l).2.2]) ∧ Kept w w' NoB := by
  subst hX
  obtain ⟨m, hm⟩ := hm
  refine (Any.strings_Cut shLays145 (strB l) (strB [x]) m w (by rw [strB_size]; omega) hm).mono fun en w' h => ⟨?_, ?_⟩
  · rw [h.1, strB_toList, strB_toList, cutB_X]
    rfl
  · obtain ⟨n, rfl⟩ := h.2
    exact (Kept.refl _ _).drewN n
/-- What stands between the marks, if something does. -/
def stampL (g : List UInt8) : Option (List UInt8) :=
  if (cutX 60 g).2.2 = true ∧ (cutX 62 (cutX 60 g).2.1).2.2 = true ∧ (cutX 62 (cutX 60 g).2.1).1 ≠ [] then some (60 :: ((cutX 62 (cutX 60 g).2.1).1 ++ [62])) else none
def stR : Option (List UInt8) → Value
  | none => .tuple #[.string (strB []), .bool false]
  | some x => .tuple #[.string (strB x), .bool true]
theorem cutX_len (x : UInt8) (t : List UInt8) : (cutX x t).1.length ≤ t.length ∧ (cutX x t).2.1.length ≤ t.length := by
  rcases cutX_cases x t with ⟨a, r, h1, _, h2⟩ | ⟨_, h2⟩
  · rw [h2, h1]
    simp
    omega
  · rw [h2]
    simp
theorem au_app (l m : List UInt8) : strB l ++ strB m = strB (l ++ m) := by
  apply ByteArray.ext
  simp [strB]
set_option maxHeartbeats 2000000 in
theorem stamp_calls (w : World) (g : List UInt8) (hl : g.length ≤ 1099511627) (hm : MaxI w) :
    Calls Tryd.prog 9 #[.string (strB g)] w fun en w' => en = .returned (stR (stampL g)) ∧ Kept w w' NoB := by
  obtain ⟨res, hres⟩ : ∃ r, stampL g = r := ⟨_, rfl⟩
  have hrc := hres
  unfold stampL at hrc
  obtain ⟨p, s, ok, hc⟩ : ∃ a b c, cutX 60 g = (a, b, c) := ⟨_, _, _, rfl⟩
  have hl1 := (cutX_len 60 g).2
  rw [hc] at hrc hl1
  simp only at hrc hl1
  obtain ⟨i, q, e, hc2⟩ : ∃ a b c, cutX 62 s = (a, b, c) := ⟨_, _, _, rfl⟩
  have hl2 := (cutX_len 62 s).1
  rw [hc2] at hrc hl2
  simp only at hrc hl2
  have h1 := cut_calls w g 60 ⟨#[60]⟩ rfl hl hm
  rw [hc] at h1
  have h2 : ∀ W, Kept w W NoB → Calls Tryd.prog 21 #[.string (strB s), .string ⟨#[62]⟩] W fun en w' => en = .returned (.tuple #[.string (strB i), .string (strB q), .bool e]) ∧ Kept W w' NoB := fun W k => by
    have := cut_calls W s 62 ⟨#[62]⟩ rfl (by omega) (hm.kept0 k)
    rw [hc2] at this
    exact this
  have H1 := Lib.hid h1
  have H2 := Lib.hid h2
  have HR := Lib.hid hres
  have HRC := Lib.hid hrc
  clear h1 h2 hres hrc hc hc2 hm
  have e1 : (⟨#[60]⟩ : ByteArray) ++ strB i = strB (60 :: i) := au_app [60] i
  have e2 : strB (60 :: i) ++ (⟨#[62]⟩ : ByteArray) = strB (60 :: (i ++ [62])) := au_app (60 :: i) [62]
  have hi2 : (60 :: i).length ≤ 1099511628 := by rw [List.length_cons]; omega
  go_enter Tryd.func9, Tryd.ntmps9
  go_wp2_with fail
  refine H1.out.mono ?_
  rintro en w1 ⟨rfl, hk⟩
  have HK1 := Lib.hid hk
  clear hk
  go_wp2_with fail
  refine (H2.out _ HK1.out).mono ?_
  rintro en w2 ⟨rfl, hk⟩
  have HK2 := Lib.hid (HK1.out.trans' hk)
  clear hk
  cases ok with
  | false =>
    have hn := HRC.out
    rw [if_neg (by simp)] at hn
    have HN := Lib.hid hn
    clear hn
    go_wp2_with fail
    go_ret2
    exact ⟨by rw [HR.out, ← HN.out]; rfl, HK2.out⟩
  | true =>
    cases e with
    | false =>
      have hn := HRC.out
      rw [if_neg (by simp)] at hn
      have HN := Lib.hid hn
      clear hn
      go_wp2_with fail
      go_ret2
      exact ⟨by rw [HR.out, ← HN.out]; rfl, HK2.out⟩
    | true =>
      by_cases hi : i = []
      · subst hi
        have hn := HRC.out
        rw [if_neg (by simp)] at hn
        have HN := Lib.hid hn
        clear hn
        go_wp2_with fail
        go_ret2
        exact ⟨by rw [HR.out, ← HN.out]; rfl, HK2.out⟩
      · have hn := HRC.out
        rw [if_pos (by simp [hi])] at hn
        have HN := Lib.hid hn
        have b1 : (i == []) = false := beq_eq_false_iff_ne.2 hi
        have b2 : i.isEmpty = false := by cases i with | nil => exact absurd rfl hi | cons => rfl
        have b3 : (strB i == (⟨#[]⟩ : ByteArray)) = false := by
          cases hh : (strB i == (⟨#[]⟩ : ByteArray)) with
          | false => rfl
          | true => exact absurd (strB_inj ((Go.MapKept.bytes_beq _ _).1 (show (strB i == strB []) = true from hh))) hi
        clear hn hi
        go_wp2_with fail
        go_ret2
        exact ⟨by rw [HR.out, ← HN.out]; rfl, HK2.out⟩
/-! ### Plain laws of stamps -/
theorem cutX_more (x : UInt8) {t a r : List UInt8} (h : cutX x t = (a, r, true)) (u : List UInt8) : cutX x (t ++ u) = (a, r ++ u, true) := by
  obtain ⟨h1, h2⟩ := cutX_some x h
  rw [h1, List.append_assoc, List.cons_append]
  exact cutX_of x h2
theorem stampL_some {g x : List UInt8} (h : stampL g = some x) : ∃ p i q, cutX 60 g = (p, i ++ 62 :: q, true) ∧ cutX 62 (i ++ 62 :: q) = (i, q, true) ∧ i ≠ [] ∧ x = 60 :: (i ++ [62]) := by
  unfold stampL at h
  split at h
  · rename_i hc
    obtain ⟨h1, h2, h3⟩ := hc
    obtain ⟨p, s, ok, hc1⟩ : ∃ a b c, cutX 60 g = (a, b, c) := ⟨_, _, _, rfl⟩
    rw [hc1] at h h1 h2 h3
    simp only at h h1 h2 h3
    subst h1
    obtain ⟨i, q, e, hc2⟩ : ∃ a b c, cutX 62 s = (a, b, c) := ⟨_, _, _, rfl⟩
    rw [hc2] at h h2 h3
    simp only at h h2 h3
    subst h2
    obtain ⟨h4, h5⟩ := cutX_some 62 hc2
    rw [h4] at hc1 hc2
    exact ⟨p, i, q, hc1, hc2, h3, (Option.some.inj h).symm⟩
  · cases h
theorem stampL_of {g p i q : List UInt8} (h1 : cutX 60 g = (p, i ++ 62 :: q, true)) (h2 : cutX 62 (i ++ 62 :: q) = (i, q, true)) (h3 : i ≠ []) : stampL g = some (60 :: (i ++ [62])) := by
  unfold stampL
  rw [h1]
  simp only
  rw [h2, if_pos (by simp [h3])]
theorem stampL_more {s x : List UInt8} (h : stampL s = some x) (t : List UInt8) : stampL (s ++ t) = some x := by
  obtain ⟨p, i, q, h1, h2, h3, h4⟩ := stampL_some h
  have k1 := cutX_more 60 h1 t
  have k2 := cutX_more 62 h2 t
  rw [List.append_assoc, List.cons_append] at k1 k2
  rw [h4]
  exact stampL_of k1 k2 h3
theorem stampL_len {g x : List UInt8} (h : stampL g = some x) : 3 ≤ x.length := by
  obtain ⟨p, i, q, _, _, h3, h4⟩ := stampL_some h
  have : 0 < i.length := List.length_pos_iff.2 h3
  rw [h4]
  simp
  omega
theorem stampL_short {g x : List UInt8} (h : stampL g = some x) : x.length ≤ g.length + 1 := by
  obtain ⟨p, i, q, h1, _, _, h4⟩ := stampL_some h
  have := (cutX_len 60 g).2
  rw [h1] at this
  simp at this
  rw [h4]
  simp
  omega
/-- Of texts without marks. -/
theorem stampL_made {b i s : List UInt8} (hb : 60 ∉ b) (hi : 62 ∉ i) : stampL (b ++ 60 :: (i ++ 62 :: s)) = if i = [] then none else some (60 :: (i ++ [62])) := by
  have k1 := cutX_of 60 (r := i ++ 62 :: s) hb
  have k2 := cutX_of 62 (r := s) hi
  by_cases h : i = []
  · rw [if_pos h]
    unfold stampL
    rw [k1]
    simp only
    rw [k2, if_neg (fun hh => hh.2.2 h)]
  · rw [if_neg h]
    exact stampL_of k1 k2 h
theorem stampL_none {g : List UInt8} (h : 60 ∉ g) : stampL g = none := by
  unfold stampL
  rw [cutX_not 60 h, if_neg (by simp)]
theorem stampL_open {b i : List UInt8} (hb : 60 ∉ b) (hi : 62 ∉ i) : stampL (b ++ 60 :: i) = none := by
  unfold stampL
  rw [cutX_of 60 (r := i) hb]
  simp only
  rw [cutX_not 62 hi, if_neg (by simp)]
end Go.Proofs.YthnebhnlkjkcmaaDoor
