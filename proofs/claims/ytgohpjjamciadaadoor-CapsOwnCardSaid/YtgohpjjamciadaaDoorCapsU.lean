/- caps: the laws' helpers: shown, bare, short, letters; plain laws. -/
import Derived.Test.YtgohpjjamciadaaDoorCapsG
import Derived.Test.YtgohpjjamciadaaDoorCapsS
set_option linter.unusedVariables false
set_option linter.unusedSimpArgs false
namespace Go.Proofs.YtgohpjjamciadaaDoor
open Go.RowKit Go.Shelf

/-! ### Plain -/
theorem split_free : ∀ (l r : List UInt8), (∀ x ∈ l, x ≠ 13) → Lib.split (l ++ 13 :: 10 :: r) [13, 10] = l :: Lib.split r [13, 10]
  | [], r, _ => by rw [List.nil_append, split_hit (by simp) (by simp [List.isPrefixOf])]; rfl
  | a :: l, r, h => by
    have ha : a ≠ 13 := h a (by simp)
    rw [List.cons_append, split_cons (by simp) (by simp [List.isPrefixOf, Ne.symm ha]), split_free l r (fun x hx => h x (by simp [hx]))]
    rfl
theorem isBl_up (c : UInt8) : isBl (upC c) = isBl c := by
  unfold upC
  split
  · rename_i h
    have h1 : c ≠ 32 := by rintro rfl; exact absurd h.1 (by decide)
    have h2 : c ≠ 9 := by rintro rfl; exact absurd h.1 (by decide)
    have h3 : (c - 32).toNat = c.toNat - 32 := by
      rw [UInt8.toNat_sub_of_le _ _ (by rw [UInt8.le_iff_toNat_le]; show 32 ≤ _; omega)]
      rfl
    have h4 : c - 32 ≠ 32 := by intro e; have := congrArg UInt8.toNat e; rw [h3] at this; have : c.toNat - 32 = 32 := this; omega
    have h5 : c - 32 ≠ 9 := by intro e; have := congrArg UInt8.toNat e; rw [h3] at this; have : c.toNat - 32 = 9 := this; omega
    unfold isBl
    rw [beq_false_of_ne h1, beq_false_of_ne h2, beq_false_of_ne h4, beq_false_of_ne h5]
  · rfl
theorem flush_up (cur : List UInt8) : flush (upL cur) = (flush cur).map upL := by
  unfold flush
  cases cur <;> simp [upL]
theorem wordsG_up : ∀ (l cur : List UInt8), wordsG (upL cur) (upL l) = (wordsG cur l).map upL
  | [], cur => by
    show wordsG (upL cur) [] = _
    rw [wordsG, wordsG, flush_up]
  | c :: l, cur => by
    show wordsG (upL cur) (upC c :: upL l) = _
    rw [wordsG, wordsG, isBl_up]
    split
    · have := wordsG_up l []
      rw [List.map_append, ← flush_up, ← this]
      rfl
    · have := wordsG_up l (cur ++ [c])
      rw [← this, upL_append]
      rfl
theorem words_up (l : List UInt8) : wordsL (upL l) = (wordsL l).map upL := wordsG_up l []
theorem upC_up (c : UInt8) : upC (upC c) = upC c := by
  by_cases h : 97 ≤ c.toNat ∧ c.toNat ≤ 122
  · have h3 : (c - 32).toNat = c.toNat - 32 := by
      rw [UInt8.toNat_sub_of_le _ _ (by rw [UInt8.le_iff_toNat_le]; show 32 ≤ _; omega)]
      rfl
    have e : upC c = c - 32 := if_pos h
    rw [e]
    exact if_neg (by rw [h3]; omega)
  · have e : upC c = c := if_neg h
    rw [e, e]
theorem upL_up (l : List UInt8) : upL (upL l) = upL l := by
  unfold upL
  rw [List.map_map]
  exact List.map_congr_left fun c _ => upC_up c
def num1 (l : List UInt8) : Nat := if wordsL l = [] then 0 else 1
theorem capOf_len (l : List UInt8) : (capOf l).toList.length = num1 l := by
  unfold capOf num1
  rw [words_up]
  cases wordsL l <;> simp [headCap]
theorem capsL_cons (l : List UInt8) (ls : List (List UInt8)) : capsL (l :: ls) = (capOf l).toList ++ capsL ls := by
  unfold capsL
  rw [List.filterMap_cons]
  cases capOf l <;> rfl
theorem capsL_nil : capsL [] = [] := rfl
theorem capOf_nil : capOf [] = none := by decide
theorem capOf_words (l : List UInt8) : ∀ x ∈ (capOf l).toList, x.2.length ≤ l.length := by
  intro x hx
  unfold capOf at hx
  have h := words_len l
  cases hw : wordsL (upL l) with
  | nil => rw [hw] at hx; simp [headCap] at hx
  | cons w ws =>
    rw [hw] at hx h
    simp [headCap] at hx
    subst hx
    simp at h ⊢
    omega
theorem capsL_words : ∀ (ls : List (List UInt8)) (n : Nat), (∀ l ∈ ls, l.length ≤ n) → ∀ x ∈ capsL ls, x.2.length ≤ n
  | [], n, _, x, hx => by simp [capsL_nil] at hx
  | l :: ls, n, h, x, hx => by
    rw [capsL_cons, List.mem_append] at hx
    rcases hx with hx | hx
    · exact Nat.le_trans (capOf_words l x hx) (h l (by simp))
    · exact capsL_words ls n (fun y hy => h y (by simp [hy])) x hx

/-! ### shown -/
def exMe : List UInt8 := [109, 101]
def exLine : List UInt8 := [65, 85, 84, 72, 32, 112, 108, 97, 105, 110, 32, 76, 79, 71, 73, 78]
def exA : List UInt8 := [97, 117, 116, 104, 32, 108, 111, 103, 105, 110]
def exB : List UInt8 := [65, 85, 84, 72, 32, 99, 114, 97, 109, 45, 109, 100, 53]
theorem ex_has : hasL (capsL [exLine]) exA = true := by decide
theorem ex_not : hasL (capsL [exLine]) exB = false := by decide
theorem ex_len : (capsL [exLine]).length = 1 := by decide
theorem ex_words : ∀ x ∈ capsL [exLine], x.2.length ≤ 1099511627776 := by decide

/-- caps.Of of lines that were just laid, no body. -/
theorem ofNew_calls (w : World) (proto : Int) (ls : List (List UInt8)) (n : Nat) (C : Array Value) (hC : C = (strs ls).toArray) (hn : ls.length = n) (hn2 : n ≤ 1099511627) (hm : MaxI w) (L : List (List UInt8)) (hL : linesL proto ls [] = L) (hLl : L.length ≤ 1099511627) (hLs : ∀ s ∈ L, s.length ≤ 1099511627) (k : Nat) (hk : (capsL L).length = k) {z : ByteArray} :
    Calls Tryd.prog 11 #[.int .i64 proto, .agg #[.string z, .slice (some ⟨w.heap.size, 0, none⟩) n n, .slice none 0 0]] (w.alloc (.cells C 9)) fun en w' =>
      ∃ D e, en = .returned (.slice D k e) ∧ k ≤ e ∧ CapsR w' (fun b => (w.alloc (.cells C 9)).heap.size ≤ b) D k (capsL L) ∧ Kept (w.alloc (.cells C 9)) w' NoB := by
  subst hC hn hk
  have h := Reads.lit w 9 (strs ls) _ rfl (0, 0)
  rw [strs_length] at h
  exact of_calls _ proto (.string z) _ NoB (some ⟨w.heap.size, 0, none⟩) none ls.length ls.length 0 0 ls [] h (Nat.le_refl _) (Reads.nil _ _ _) (by simp) hn2 (hm.kept0 ((Kept.refl _ _).alloc _)) ⟨_, rfl⟩ L hL hLl hLs

set_option maxHeartbeats 1000000 in
set_option maxRecDepth 100000 in
theorem shown_calls (w : World) (hm : MaxI w) : Calls Tryd.prog 8 #[] w fun en w' => en = .returned (.bool true) ∧ Kept w w' NoB := by
  go_enter Tryd.func8, Tryd.ntmps8
  go_wp2_with fail
  refine (ofNew_calls w 1 [exMe, exLine] 2 _ rfl rfl (by decide) hm [exLine] (by decide) (by decide) (by decide) 1 ex_len).mono ?_
  rintro en w1 ⟨D, e, rfl, he, hc, hk1⟩
  have HK1 := Lib.hid (((Kept.refl w NoB).alloc _).trans' hk1)
  have HC := Lib.hid hc
  clear hc hk1
  go_wp2_with fail
  refine (has_calls w1 _ D 1 e _ exA HC.out (by decide) (by decide) (hm.kept0 HK1.out) ex_words).mono ?_
  rw [ex_has]
  rintro en w2 ⟨rfl, hk2⟩
  have HK2 := Lib.hid (HK1.out.trans' hk2)
  have HC2 := Lib.hid (HC.out.kept0 hk2)
  clear hk2
  go_wp2_with fail
  refine (has_calls w2 _ D 1 e _ exB HC2.out (by decide) (by decide) (hm.kept0 HK2.out) ex_words).mono ?_
  rw [ex_not]
  rintro en w3 ⟨rfl, hk3⟩
  have HK3 := Lib.hid (HK2.out.trans' hk3)
  clear hk3
  go_wp2_with fail
  go_ret
  exact ⟨rfl, HK3.out⟩
end Go.Proofs.YtgohpjjamciadaaDoor
