/- A cell of a row of the call's own is set. Plain theorems over any program. -/
import Derived.Test.YthnebhnlkjkcmaaDoorW
set_option linter.unusedVariables false
set_option linter.unusedSimpArgs false
namespace Go.Proofs.YthnebhnlkjkcmaaDoor
open Go.RowKit

theorem Row.form {w : World} {e : TypeId} {S : Nat → Prop} {v : Value} {xs : List Value} (h : Row w e S v xs) (h0 : 0 < xs.length) :
    ∃ (g c : Nat) (cur : Array Value), v = .slice (some ⟨g, 0, none⟩) xs.length c ∧ S g ∧ Blk w g e cur ∧ xs.length ≤ c ∧ c ≤ maxLen ∧ ∀ (j : Nat) (u : Value), xs[j]? = some u → cur[j]? = some u := by
  rcases h.1.2 with ⟨hv, hn⟩ | ⟨g, cap, cur, hv, hb, hh, h1, h2, h3, h4⟩
  · omega
  · refine ⟨g, cap, cur, hv, h.2 g (by rw [hv]; rfl), hh, h1, h2, fun j u hu => ?_⟩
    rw [← h4, List.getElem?_take] at hu
    split at hu
    · rwa [Array.getElem?_toList] at hu
    · cases hu
theorem Row.set {w : World} {e : TypeId} {S : Nat → Prop} {g n c : Nat} {xs : List Value} (h : Row w e S (.slice (some ⟨g, 0, none⟩) n c) xs) (k : Nat) (u : Value) :
    Row (w.setCell ⟨g, k, none⟩ u) e S (.slice (some ⟨g, 0, none⟩) n c) (xs.set k u) := by
  refine ⟨⟨by rw [List.length_set, Nat.mul_one], ?_⟩, h.2⟩
  rcases h.1.2 with ⟨hv, hn⟩ | ⟨g', cap, cur, hv, hb, hh, h1, h2, h3, h4⟩
  · injection hv with hv
    cases hv
  · injection hv with e1 e2 e3
    injection e1 with e1
    injection e1 with e1
    subst e1
    subst e3
    have hB : Blk w g e cur := hh
    refine .inr ⟨g, c, cur.setIfInBounds k u, by rw [e2, List.length_set], hb, hB.set_ k u, by rw [List.length_set]; exact h1, h2, by simpa using h3, ?_⟩
    rw [Array.toList_setIfInBounds, List.length_set, List.take_set, h4]
end Go.Proofs.YthnebhnlkjkcmaaDoor
