/- b64.Put of any row. -/
import Derived.Test.YthnebhnlkjkcmaaDoorB64
import Derived.Test.YthnebhnlkjkcmaaDoorRowW
set_option linter.unusedVariables false
set_option linter.unusedSimpArgs false
namespace Go.Proofs.YthnebhnlkjkcmaaDoor
open Go.RowKit

theorem put64_any {w1 w : World} {S : Nat → Prop} {A : Option Addr} {n c : Nat} {l : List UInt8} (hr : Reads w S A n (b8s l)) (hn : n ≤ 1099511627776) (hc : n ≤ c) {s : ByteArray} (hs : strB (put64 l) = s) :
    Calls Tryd.prog 14 #[.slice A n c] w (fun en w' => en = .returned (.string s) ∧ Kept w w' NoB) := by
  subst hs
  exact (put64_calls w S A n c l hr hn hc).mono fun en w' h => ⟨h.1, Kept.of_below h.2⟩
end Go.Proofs.YthnebhnlkjkcmaaDoor
