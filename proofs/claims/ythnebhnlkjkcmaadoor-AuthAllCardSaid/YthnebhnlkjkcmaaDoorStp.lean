/- A step of the sum: words. -/
import Derived.Test.YthnebhnlkjkcmaaDoorMd
import Derived.Test.YthnebhnlkjkcmaaDoorSin
set_option linter.unusedVariables false
namespace Go.Proofs.YthnebhnlkjkcmaaDoor
open Go.RowKit

theorem max_u32 : IntKind.max .u32 = 4294967295 := by decide
theorem notM_U (x : BitVec 32) : bits .xor .u32 (if IntKind.signed .u32 = true then -1 else IntKind.max .u32) (U x) = U (~~~x) := by rw [if_neg (by decide), max_u32]; exact not_U x
theorem blk4 {w : World} {g : Nat} {t : TypeId} {a b c d : Value} (h : Blk w g t #[a, b, c, d]) (a' b' c' d' : Int) :
    Blk ((((w.setCell ⟨g, 0, none⟩ (.int .u32 a')).setCell ⟨g, 1, none⟩ (.int .u32 b')).setCell ⟨g, 2, none⟩ (.int .u32 c')).setCell ⟨g, 3, none⟩ (.int .u32 d')) g t #[.int .u32 a', .int .u32 b', .int .u32 c', .int .u32 d'] := by
  have := (((h.set_ 0 (.int .u32 a')).set_ 1 (.int .u32 b')).set_ 2 (.int .u32 c')).set_ 3 (.int .u32 d')
  exact this
theorem kept4 {a w : World} {g : Nat} (h : Kept a w NoB) (hg : a.heap.size ≤ g) (a' b' c' d' : Value) :
    Kept a ((((w.setCell ⟨g, 0, none⟩ a').setCell ⟨g, 1, none⟩ b').setCell ⟨g, 2, none⟩ c').setCell ⟨g, 3, none⟩ d') NoB :=
  (((h.setCell (.inr hg) _).setCell (.inr hg) _).setCell (.inr hg) _).setCell (.inr hg) _
end Go.Proofs.YthnebhnlkjkcmaaDoor
