/- Cutting a text at a byte: plain laws. -/
import Derived.Test.YtammhfnolafknaaDoorW
import Derived.Lib.Replace
import Derived.Lib.SplitLaws
set_option linter.unusedVariables false
set_option linter.unusedSimpArgs false
namespace Go.Proofs.YtammhfnolafknaaDoor
open Go.RowKit Go.Lib

theorem cx_pre {s sep : List UInt8} (hs : sep ≠ []) (h : sep.isPrefixOf s = true) : index s sep = ((0 : Nat) : Int) := by
  cases s with
  | nil => cases sep with
    | nil => exact absurd rfl hs
    | cons a r => simp [List.isPrefixOf] at h
  | cons b l => rw [index, if_pos h]; rfl
theorem cx_cons {b : UInt8} {l sep : List UInt8} (h : sep.isPrefixOf (b :: l) = false) : index (b :: l) sep = if index l sep == -1 then -1 else index l sep + 1 := by
  rw [index, h]; simp
theorem cutB_nil (x : UInt8) : cut [] [x] = ([], [], false) := rfl
theorem cutB_cons (x c : UInt8) (l : List UInt8) : cut (c :: l) [x] = if c = x then ([], l, true) else (c :: (cut l [x]).1, (cut l [x]).2.1, (cut l [x]).2.2) := by
  by_cases h : c = x
  · subst h
    rw [if_pos rfl]
    unfold cut
    rw [cx_pre (by simp) (by simp [List.isPrefixOf])]
    simp
  · rw [if_neg h]
    have hi := cx_cons (b := c) (l := l) (sep := [x]) (by simp [List.isPrefixOf, Ne.symm h])
    unfold cut
    by_cases hm : index l [x] = -1
    · rw [hi, hm]
      simp
    · have hge := index_ge l [x]
      obtain ⟨j, hj⟩ : ∃ j : Nat, index l [x] = j := ⟨(index l [x]).toNat, by omega⟩
      have hix : index (c :: l) [x] = ((j + 1 : Nat) : Int) := by rw [hi, if_neg (fun e => hm (beq_iff_eq.1 e)), hj]; omega
      rw [hix, hj]
      have e1 : ¬ (((j + 1 : Nat) : Int) < 0) := by omega
      have e2 : ¬ ((j : Nat) : Int) < 0 := by omega
      simp [e1, e2]
      omega
/-- A text cut at its first x. -/
def cutX (x : UInt8) : List UInt8 → List UInt8 × List UInt8 × Bool
  | [] => ([], [], false)
  | c :: l => if c = x then ([], l, true) else (c :: (cutX x l).1, (cutX x l).2.1, (cutX x l).2.2)
theorem cutB_X (x : UInt8) : ∀ l, cut l [x] = cutX x l
  | [] => rfl
  | c :: l => by rw [cutB_cons, cutX, cutB_X x l]
theorem cutX_some (x : UInt8) : ∀ {t a r : List UInt8}, cutX x t = (a, r, true) → t = a ++ x :: r ∧ x ∉ a
  | [], a, r, h => by simp [cutX] at h
  | c :: t, a, r, h => by
    rw [cutX] at h
    split at h
    · rename_i hc
      simp only [Prod.mk.injEq] at h
      obtain ⟨rfl, rfl, _⟩ := h
      exact ⟨by simp [hc], by simp⟩
    · rename_i hc
      simp only [Prod.mk.injEq] at h
      obtain ⟨rfl, rfl, h3⟩ := h
      obtain ⟨h1, h2⟩ := cutX_some x (t := t) (a := (cutX x t).1) (r := (cutX x t).2.1) (by rw [← h3])
      refine ⟨by rw [List.cons_append, ← h1], ?_⟩
      simp only [List.mem_cons, not_or]
      exact ⟨fun e => hc e.symm, h2⟩
theorem cutX_none (x : UInt8) : ∀ {t : List UInt8}, (cutX x t).2.2 = false → x ∉ t ∧ cutX x t = (t, [], false)
  | [], _ => ⟨by simp, rfl⟩
  | c :: t, h => by
    rw [cutX] at h ⊢
    split at h
    · cases h
    · rename_i hc
      obtain ⟨h1, h2⟩ := cutX_none x (t := t) h
      rw [if_neg hc, h2]
      refine ⟨?_, rfl⟩
      simp only [List.mem_cons, not_or]
      exact ⟨fun e => hc e.symm, h1⟩
theorem cutX_of (x : UInt8) : ∀ {a r : List UInt8}, x ∉ a → cutX x (a ++ x :: r) = (a, r, true)
  | [], r, _ => by simp [cutX]
  | c :: a, r, h => by
    simp only [List.mem_cons, not_or] at h
    rw [List.cons_append, cutX, if_neg (fun e => h.1 e.symm), cutX_of x h.2]
theorem cutX_not (x : UInt8) : ∀ {t : List UInt8}, x ∉ t → cutX x t = (t, [], false)
  | [], _ => rfl
  | c :: t, h => by
    simp only [List.mem_cons, not_or] at h
    rw [cutX, if_neg (fun e => h.1 e.symm), cutX_not x h.2]
theorem cutX_cases (x : UInt8) (t : List UInt8) : (∃ a r, t = a ++ x :: r ∧ x ∉ a ∧ cutX x t = (a, r, true)) ∨ (x ∉ t ∧ cutX x t = (t, [], false)) := by
  cases h : (cutX x t).2.2 with
  | false => exact .inr (cutX_none x h)
  | true =>
    have e : cutX x t = ((cutX x t).1, (cutX x t).2.1, true) := by rw [← h]
    obtain ⟨h1, h2⟩ := cutX_some x e
    exact .inl ⟨_, _, h1, h2, e⟩
end Go.Proofs.YtammhfnolafknaaDoor
