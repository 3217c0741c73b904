/- CapsEach's walk. -/
import Derived.Test.YtgohpjjamciadaaDoorCapsB
import Derived.Test.YtgohpjjamciadaaDoorRowW
set_option linter.unusedVariables false
set_option linter.unusedSimpArgs false
namespace Go.Proofs.YtgohpjjamciadaaDoor
open Go.RowKit Go.Shelf

/-! ### Plain -/
theorem capC_bl {c : UInt8} (h : capC c = true) : isBl c = false ∧ upC c = c := by
  unfold capC at h
  simp only [decide_eq_true_eq] at h
  refine ⟨?_, if_neg (by omega)⟩
  have h1 : c ≠ 32 := by rintro rfl; exact absurd h.1 (by decide)
  have h2 : c ≠ 9 := by rintro rfl; exact absurd h.1 (by decide)
  unfold isBl
  rw [beq_false_of_ne h1, beq_false_of_ne h2]
  rfl
theorem wordsG_run : ∀ (l r cur : List UInt8), (∀ x ∈ l, isBl x = false) → wordsG cur (l ++ r) = wordsG (cur ++ l) r
  | [], r, cur, _ => by simp
  | c :: l, r, cur, h => by
    rw [List.cons_append, wordsG, h c (by simp), if_neg Bool.false_ne_true, wordsG_run l r (cur ++ [c]) (fun x hx => h x (by simp [hx]))]
    simp
theorem wordsG_all {l : List UInt8} (h : ∀ x ∈ l, isBl x = false) (cur : List UInt8) : wordsG cur l = flush (cur ++ l) := by
  have := wordsG_run l [] cur h
  rw [List.append_nil, wordsG] at this
  exact this
theorem wordsG_bl (cur r : List UInt8) : wordsG cur (32 :: r) = flush cur ++ wordsG [] r := by rw [wordsG, if_pos (by decide)]
theorem flush_ne {l : List UInt8} (h : l ≠ []) : flush l = [l] := if_neg h
theorem upL_caps {l : List UInt8} (h : ∀ x ∈ l, capC x = true) : upL l = l := by
  unfold upL
  conv => rhs; rw [← List.map_id l]
  exact List.map_congr_left fun c hc => (capC_bl (h c hc)).2
def kA : List UInt8 := [65, 85, 84, 72]
theorem kA_caps : ∀ x ∈ kA, capC x = true := by decide
/-- A word of capitals: not empty. -/
structure CapW (l : List UInt8) : Prop where
  ne : l ≠ []
  all : ∀ x ∈ l, capC x = true
theorem CapW.bl {l : List UInt8} (h : CapW l) : ∀ x ∈ l, isBl x = false := fun x hx => (capC_bl (h.all x hx)).1
theorem kA_w : CapW kA := ⟨by decide, kA_caps⟩
theorem words1 {a : List UInt8} (ha : CapW a) : wordsL (upL a) = [a] := by
  rw [upL_caps ha.all, wordsL, wordsG_all ha.bl, List.nil_append, flush_ne ha.ne]
theorem words2 {a b : List UInt8} (ha : CapW a) (hb : CapW b) : wordsL (a ++ 32 :: b) = [a, b] := by
  rw [wordsL, wordsG_run a _ [] ha.bl, wordsG_bl, List.nil_append, flush_ne ha.ne, wordsG_all hb.bl, List.nil_append, flush_ne hb.ne]
  rfl
theorem words3 {a b c : List UInt8} (ha : CapW a) (hb : CapW b) (hc : CapW c) : wordsL (a ++ 32 :: (b ++ 32 :: c)) = [a, b, c] := by
  have h2 := words2 hb hc
  unfold wordsL at h2
  rw [wordsL, wordsG_run a _ [] ha.bl, wordsG_bl, List.nil_append, flush_ne ha.ne, h2]
  rfl
def exCaps (a b : List UInt8) : List CapV := [(kA, [a]), (kA, [b]), ([88], [])]
theorem up2 {a b : List UInt8} (ha : CapW a) (hb : CapW b) : upL (a ++ 32 :: b) = a ++ 32 :: b := by
  rw [upL_append, upL_caps ha.all]
  show a ++ (upC 32 :: upL b) = _
  rw [upL_caps hb.all]
  rfl
theorem capOf2 {b : List UInt8} (hb : CapW b) : capOf (kA ++ 32 :: b) = some (kA, [b]) := by
  unfold capOf
  rw [up2 kA_w hb, words2 kA_w hb]
  rfl
theorem ex_caps {a b : List UInt8} (ha : CapW a) (hb : CapW b) : capsL [kA ++ 32 :: a, kA ++ 32 :: b, [32], [88]] = exCaps a b := by
  rw [capsL_cons, capsL_cons, capsL_cons, capsL_cons, capsL_nil, capOf2 ha, capOf2 hb]
  have h1 : capOf [32] = none := by decide
  have h2 : capOf [88] = some ([88], []) := by decide
  rw [h1, h2]
  rfl
theorem ex_two {a b : List UInt8} (ha : CapW a) (hb : CapW b) : hasL (exCaps a b) (kA ++ 32 :: a) = true ∧ hasL (exCaps a b) (kA ++ 32 :: b) = true := by
  constructor
  · unfold hasL
    rw [up2 kA_w ha, words2 kA_w ha]
    simp [hasW, exCaps, hasC]
  · unfold hasL
    rw [up2 kA_w hb, words2 kA_w hb]
    simp [hasW, exCaps, hasC]
theorem ex_x (a b : List UInt8) : hasL (exCaps a b) [120] = true := by
  unfold hasL
  rw [show wordsL (upL [120]) = [[88]] by decide]
  simp [hasW, exCaps, hasC, kA]
theorem ex_one {a b : List UInt8} (ha : CapW a) (h1 : a ≠ kA) (h2 : a ≠ [88]) : hasL (exCaps a b) a = false := by
  unfold hasL
  rw [words1 ha]
  have e1 : (kA == a) = false := beq_false_of_ne (Ne.symm h1)
  have e2 : (([88] : List UInt8) == a) = false := beq_false_of_ne (Ne.symm h2)
  simp [hasW, exCaps, hasC, e1, e2]
theorem ex_both {a b : List UInt8} (ha : CapW a) (hb : CapW b) (hab : a ≠ b) : hasL (exCaps a b) ([97, 117, 116, 104, 32] ++ (a ++ 32 :: b)) = false := by
  unfold hasL
  have e : upL ([97, 117, 116, 104, 32] ++ (a ++ 32 :: b)) = kA ++ 32 :: (a ++ 32 :: b) := by
    rw [upL_append, up2 ha hb]
    have : upL [97, 117, 116, 104, 32] = kA ++ [32] := by decide
    rw [this]
    simp
  rw [e, words3 kA_w ha hb]
  have h1 : (a == b) = false := beq_false_of_ne hab
  have h2 : (b == a) = false := beq_false_of_ne (Ne.symm hab)
  have h3 : (([88] : List UInt8) == kA) = false := by decide
  simp [hasW, exCaps, hasC, h3, hab, Ne.symm hab]
theorem ex_wordsl (a b : List UInt8) : ∀ x ∈ exCaps a b, x.2.length ≤ 1099511627776 := by
  intro x hx
  simp only [exCaps, List.mem_cons, List.not_mem_nil, or_false] at hx
  rcases hx with rfl | rfl | rfl <;> simp
theorem snoc_w {l : List UInt8} (h : ∀ x ∈ l, capC x = true) (c : UInt8) (hc : capC c = true) : CapW (l ++ [c]) :=
  ⟨by simp, fun x hx => by
    rcases List.mem_append.1 hx with h1 | h1
    · exact h x h1
    · rw [List.mem_singleton.1 h1]; exact hc⟩
theorem snoc_ne {l m : List UInt8} {c d : UInt8} (h : c ≠ d) : l ++ [c] ≠ m ++ [d] := by
  intro e
  have := congrArg List.getLast? e
  simp at this
  exact h this

set_option maxHeartbeats 4000000 in
set_option maxRecDepth 100000 in
theorem each_law (w : World) (s t : List UInt8) (hs : s.length ≤ 140737488351232) (ht : t.length ≤ 140737488351232) (hm : MaxI w) :
    Calls Tryd.prog 7 #[.string (strB s), .string (strB t)] w fun en w' => en = .returned (.bool true) ∧ Kept w w' NoB := by
  go_enter Tryd.func7, Tryd.ntmps7
  go_wp2_with fail
  refine (shown_calls w hm).mono ?_
  rintro en w1 ⟨rfl, hk1⟩
  have HK1 := Lib.hid hk1
  clear hk1
  go_wp2_with fail
  refine (letters_calls w1 s hs).mono ?_
  rintro en w2 ⟨a0, rfl, ha0, haC, hk2⟩
  have HK2 := Lib.hid (HK1.out.trans' hk2)
  have HA := Lib.hid (snoc_w haC 65 (by decide))
  have e1 : strB a0 ++ (⟨#[65]⟩ : ByteArray) = strB (a0 ++ [65]) := strB_append a0 [65]
  have ta : ¬ (9223372036854775807 < a0.length + 1) := by omega
  obtain ⟨a, ha⟩ : ∃ a, a0 ++ [65] = a := ⟨_, rfl⟩
  have hal : a.length ≤ 13 := by rw [← ha]; simp; omega
  rw [ha] at HA e1
  have HAA := Lib.hid ha
  clear hk2 ha
  go_wp2_with fail
  refine (letters_calls w2 t ht).mono ?_
  rintro en w3 ⟨b0, rfl, hb0, hbC, hk3⟩
  have HK3 := Lib.hid (HK2.out.trans' hk3)
  have HB := Lib.hid (snoc_w hbC 66 (by decide))
  have e2 : strB b0 ++ (⟨#[66]⟩ : ByteArray) = strB (b0 ++ [66]) := strB_append b0 [66]
  have tb : ¬ (9223372036854775807 < b0.length + 1) := by omega
  have hab : a0 ++ [65] ≠ b0 ++ [66] := snoc_ne (by decide)
  have hak : a0 ++ [65] ≠ kA := snoc_ne (m := [65, 85, 84]) (by decide)
  have hax : a0 ++ [65] ≠ [88] := snoc_ne (m := []) (by decide)
  rw [HAA.out] at hab hak hax
  obtain ⟨b, hb⟩ : ∃ b, b0 ++ [66] = b := ⟨_, rfl⟩
  have hbl : b.length ≤ 13 := by rw [← hb]; simp; omega
  rw [hb] at HB e2 hab
  have e3 : (⟨#[65, 85, 84, 72, 32]⟩ : ByteArray) ++ strB a = strB (kA ++ 32 :: a) := strB_append [65, 85, 84, 72, 32] a
  have e4 : (⟨#[65, 85, 84, 72, 32]⟩ : ByteArray) ++ strB b = strB (kA ++ 32 :: b) := strB_append [65, 85, 84, 72, 32] b
  have H1 := Lib.hid (ex_two HA.out HB.out)
  have H2 := Lib.hid (ex_one (b := b) HA.out hak hax)
  have h3 : hasL (exCaps a b) (97 :: 117 :: 116 :: 104 :: 32 :: (a ++ 32 :: b)) = false := ex_both HA.out HB.out hab
  have H3 := Lib.hid h3
  have H4 := Lib.hid (ex_caps HA.out HB.out)
  have nx : (a == ([88] : List UInt8)) = false := beq_false_of_ne hax
  have nk : (a == ([65, 85, 84, 72] : List UInt8)) = false := beq_false_of_ne hak
  clear h3 hk3 haC hbC hb hab hak hax
  go_wp2_with fail
  refine (ofNew_calls w3 1 [[], kA ++ 32 :: a, kA ++ 32 :: b, [32], [88]] 5 _ rfl rfl (by decide) (hm.kept0 HK3.out) [kA ++ 32 :: a, kA ++ 32 :: b, [32], [88]] rfl (by simp) (by
    intro x hx
    simp only [List.mem_cons, List.not_mem_nil, or_false] at hx
    rcases hx with rfl | rfl | rfl | rfl <;> simp [kA] <;> omega) 3 (by rw [H4.out]; rfl)).mono ?_
  rw [H4.out]
  rintro en w4 ⟨D, e, rfl, he, hc, hk4⟩
  have HK4 := Lib.hid ((HK3.out.alloc _).trans' hk4)
  have HC4 := Lib.hid hc
  have e5 : (⟨#[97, 117, 116, 104, 32]⟩ : ByteArray) ++ strB a ++ (⟨#[32]⟩ : ByteArray) ++ strB b = strB ([97, 117, 116, 104, 32] ++ (a ++ 32 :: b)) := by
    have h1 : (⟨#[97, 117, 116, 104, 32]⟩ : ByteArray) ++ strB a = strB ([97, 117, 116, 104, 32] ++ a) := strB_append [97, 117, 116, 104, 32] a
    have h2 : strB ([97, 117, 116, 104, 32] ++ a) ++ (⟨#[32]⟩ : ByteArray) = strB ([97, 117, 116, 104, 32] ++ a ++ [32]) := strB_append _ [32]
    rw [h1, h2, strB_append]
    simp
  clear hc hk4
  go_wp2_with fail
  refine (has_calls w4 _ D 3 e (exCaps a b) (97 :: 117 :: 116 :: 104 :: 32 :: (a ++ 32 :: b)) HC4.out (by decide) (by simp [kA]; omega) (hm.kept0 HK4.out) (ex_wordsl a b)).mono ?_
  rw [H3.out]
  rintro en w5 ⟨rfl, hk5⟩
  have HK5 := Lib.hid (HK4.out.trans' hk5)
  have HC5 := Lib.hid (HC4.out.kept0 hk5)
  clear hk5
  go_wp2_with fail
  refine (has_calls w5 _ D 3 e (exCaps a b) (kA ++ 32 :: a) HC5.out (by decide) (by simp [kA]; omega) (hm.kept0 HK5.out) (ex_wordsl a b)).mono ?_
  rw [H1.out.1]
  rintro en w6 ⟨rfl, hk6⟩
  have HK6 := Lib.hid (HK5.out.trans' hk6)
  have HC6 := Lib.hid (HC5.out.kept0 hk6)
  clear hk6
  go_wp2_with fail
  refine (has_calls w6 _ D 3 e (exCaps a b) (kA ++ 32 :: b) HC6.out (by decide) (by simp [kA]; omega) (hm.kept0 HK6.out) (ex_wordsl a b)).mono ?_
  rw [H1.out.2]
  rintro en w7 ⟨rfl, hk7⟩
  have HK7 := Lib.hid (HK6.out.trans' hk7)
  have HC7 := Lib.hid (HC6.out.kept0 hk7)
  clear hk7
  go_wp2_with fail
  refine (has_calls w7 _ D 3 e (exCaps a b) [120] HC7.out (by decide) (by decide) (hm.kept0 HK7.out) (ex_wordsl a b)).mono ?_
  rw [ex_x a b]
  rintro en w8 ⟨rfl, hk8⟩
  have HK8 := Lib.hid (HK7.out.trans' hk8)
  have HC8 := Lib.hid (HC7.out.kept0 hk8)
  clear hk8
  go_wp2_with fail
  refine (has_calls w8 _ D 3 e (exCaps a b) a HC8.out (by decide) (by omega) (hm.kept0 HK8.out) (ex_wordsl a b)).mono ?_
  rw [H2.out]
  rintro en w9 ⟨rfl, hk9⟩
  have HK9 := Lib.hid (HK8.out.trans' hk9)
  have HC9 := Lib.hid (HC8.out.kept0 hk9)
  clear hk9
  go_wp2_with fail
  go_ret
  exact ⟨rfl, HK9.out⟩

theorem capsEach_walk (W : World) (a0 a1 : ByteArray) (w0 : a0.size ≤ 140737488351232) (w1 : a1.size ≤ 140737488351232) (hsh : W.ShapedOpen Tryd.prog) :
    Calls Tryd.prog 7 #[.string a0, .string a1] W fun en w' => en = .returned (.bool true) ∧ Below W.heap.size W w' := by
  obtain ⟨s, rfl, hs⟩ := strB_of a0
  obtain ⟨t, rfl, ht⟩ := strB_of a1
  exact (each_law W s t (by omega) (by omega) (MaxI.of_shape hsh)).mono fun _ _ ⟨he, hk⟩ => ⟨he, hk.below⟩
end Go.Proofs.YtgohpjjamciadaaDoor
