/- b64: shown and short. -/
import Derived.Test.YtllhnedfeballaaDoorB64
import Derived.Test.YtllhnedfeballaaDoorRowW
set_option linter.unusedVariables false
set_option linter.unusedSimpArgs false
namespace Go.Proofs.YtllhnedfeballaaDoor
open Go.RowKit

theorem put64_any {w1 w : World} {S : Nat → Prop} {A : Option Addr} {n c : Nat} {l : List UInt8} (hr : Reads w S A n (b8s l)) (hn : n ≤ 1099511627776) (hc : n ≤ c) {s : ByteArray} (hs : strB (put64 l) = s) :
    Calls Tryd.prog 9 #[.slice A n c] w (fun en w' => en = .returned (.string s) ∧ Kept w w' NoB) := by
  subst hs
  exact (put64_calls w S A n c l hr hn hc).mono fun en w' h => ⟨h.1, Kept.of_below h.2⟩
theorem put64_lit (w1 : World) (l : List UInt8) {C : Array Value} {fr : Nat × Nat} (hC : C = (b8s l).toArray) (n c : Nat) (hln : l.length = n) (hn : n ≤ 1099511627776) (hc : n ≤ c) {s : ByteArray} (hs : strB (put64 l) = s) :
    Calls Tryd.prog 9 #[.slice (some ⟨w1.heap.size, 0, none⟩) n c] (w1.alloc (.cells C 5 fr)) (fun en w' => en = .returned (.string s) ∧ Kept (w1.alloc (.cells C 5 fr)) w' NoB) := by
  subst hln
  exact put64_any (w1 := w1) (Reads.bytes w1 _ l C hC fr) hn hc hs
theorem put64_abcd : put64 [0, 16, 131] = [65, 66, 67, 68] := by
  rw [put64_step (by simp)]
  show _ ++ put64 [] = _
  rw [put64_nil]
  decide
theorem put64_f : put64 [102] = [90, 103, 61, 61] := by
  rw [put64_step (by simp)]
  show _ ++ put64 [] = _
  rw [put64_nil]
  decide

set_option maxHeartbeats 1000000 in
set_option maxRecDepth 100000 in
theorem shown_calls (w : World) : Calls Tryd.prog 5 #[] w fun en w' => en = .returned (.bool true) ∧ Kept w w' NoB := by
  have kc := fun (w : World) (C : Array Value) (n c : Nat) => Lib.run_convert_bytes_const (P := Tryd.prog) w 22 5 C n c Tryd.underlying22 Tryd.underlying5
  go_enter Tryd.func5, Tryd.ntmps5
  go_wp2_with fail
  refine (put64_lit _ [0, 16, 131] rfl 3 3 rfl (by decide) (by decide) (s := ⟨#[65, 66, 67, 68]⟩) (congrArg strB put64_abcd)).mono ?_
  rintro en w1 ⟨rfl, hk1⟩
  go_wp2_with fail
  refine (put64_lit _ [102] rfl 1 1 rfl (by decide) (by decide) (s := ⟨#[90, 103, 61, 61]⟩) (congrArg strB put64_f)).mono ?_
  rintro en w2 ⟨rfl, hk2⟩
  go_wp2_with fail
  go_ret
  exact ⟨rfl, (((Kept.refl w NoB).alloc _).trans' hk1).alloc _ |>.trans' hk2⟩

theorem short_calls (w : World) (S : Nat → Prop) (A : Option Addr) (n c : Nat) (l : List UInt8) (hr : Reads w S A n (b8s l)) (hc : n ≤ c) :
    Calls Tryd.prog 6 #[.slice A n c] w fun en w' => ∃ A' m c', en = .returned (.slice A' m c') ∧ w' = w ∧ m ≤ c' ∧ m ≤ 600 ∧ Reads w S A' m (b8s (l.take 600)) := by
  obtain ⟨hi0, hz1, hz0⟩ : ∃ i, Tryd.prog.info? 5 = some i ∧ i.size = 1 := by
    have : (Tryd.prog.info? 5).map (·.size) = some 1 := by kernel_rfl
    obtain ⟨i, h1, h2⟩ := Option.map_eq_some_iff.1 this
    exact ⟨i, h1, h2⟩
  have hl : l.length = n := by have := hr.1; rwa [b8s_length] at this
  go_enter Tryd.func6, Tryd.ntmps6
  by_cases h : (600 : Int) < (n : Int)
  · have hrA := hr.take (k := 600) (by omega)
    rw [b8s_take] at hrA
    have H := Lib.hid hl
    clear hl
    go_wp2
    go_ret
    exact ⟨A, 600, c, rfl, rfl, by omega, by omega, hrA⟩
  · go_wp2
    go_ret
    refine ⟨A, n, c, rfl, rfl, hc, by omega, ?_⟩
    rw [List.take_of_length_le (by omega)]
    exact hr
end Go.Proofs.YtllhnedfeballaaDoor
