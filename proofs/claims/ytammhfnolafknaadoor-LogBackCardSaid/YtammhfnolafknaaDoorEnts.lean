/- An argument's entries. -/
import Derived.Test.YtammhfnolafknaaDoorLogFew
import Derived.Test.YtammhfnolafknaaDoorRowW
import Derived.Deep.Slices
import Derived.Deep.Strs
set_option linter.unusedVariables false
set_option linter.unusedSimpArgs false
namespace Go.Proofs.YtammhfnolafknaaDoor
open Go.RowKit Go.Shelf Go.ChangeShapes Go.WideShapes

def IsEnts (w : World) (a : Option Addr) (len cap : Nat) : Prop := len ≤ 9223372036854775807 ∧ ∃ es, EntR w (fun b => b < w.heap.size) a len es ∧ ∀ e ∈ es, wfE 9223372036854775807 e
theorem three {α : Type} (l : List α) (h : l.length = 3) : ∃ a b c, l = [a, b, c] := by
  match l, h with
  | [a, b, c], _ => exact ⟨a, b, c, rfl⟩
set_option maxRecDepth 100000 in
set_option maxHeartbeats 1000000 in
theorem open_ents {H : Type} {enc : TypeId × Value → H} {W : World} {spare : Nat → Bool} {held : Bool} {fuel : Nat} {cs : List Value} {x : DataW H × List MemPlace} (h : DataW.trod enc Tryd.prog W 0 spare held fuel 22 cs = some x) :
    ∃ a len cap, cs = [.slice a len cap] ∧ IsEnts W a len cap := by
  have cE : Tryd.prog.cellsOf 35 = 3 := by kernel_rfl
  have cI : Tryd.prog.cellsOf 3 = 1 := by kernel_rfl
  have cS : Tryd.prog.cellsOf 9 = 1 := by kernel_rfl
  rcases Go.Deep.open_slice Tryd.underlying22 h with ⟨rfl, _⟩ | ⟨a, len, cap, m, n, D, Pl, rfl, hb, hl, hm, hmm, _, hel⟩
  · exact ⟨none, 0, 0, rfl, by omega, [], ⟨rfl, fun h => absurd h (by omega)⟩, by simp⟩
  · have hlm : len ≤ m := by rw [hmm]; split <;> omega
    have each : ∀ i, i < len → ∃ e : Ent, W.cell? (a.add (i * 3)) = some (.int .i64 e.1) ∧ W.cell? (a.add (i * 3 + 1)) = some (.int .i64 e.2.1) ∧ W.cell? (a.add (i * 3 + 2)) = some (.string (strB e.2.2)) ∧ wfE 9223372036854775807 e := by
      intro i hi
      obtain ⟨cs', h1, h2⟩ := hel i (by omega)
      rw [cE] at h1
      obtain ⟨_, hlen, hcell⟩ := World.cells?_some h1
      obtain ⟨y0, y1, y2, k, _, _, t0, t1, t2⟩ := Go.Deep.trod_struct3 Tryd.underlying35 h2
      obtain ⟨v0, v1, v2, rfl⟩ := three cs' hlen
      have u0 : DataW.trod enc Tryd.prog W 0 spare held k 3 [v0] = some y0 := by simpa [cI, cS] using t0
      have u1 : DataW.trod enc Tryd.prog W 0 spare held k 3 [v1] = some y1 := by simpa [cI, cS] using t1
      have u2 : DataW.trod enc Tryd.prog W 0 spare held k 9 [v2] = some y2 := by simpa [cI, cS] using t2
      obtain ⟨a0, e0, _, w0⟩ := DataW.trod_int Tryd.underlying3 u0
      obtain ⟨a1, e1, _, w1⟩ := DataW.trod_int Tryd.underlying3 u1
      obtain ⟨a2, e2, _, w2⟩ := DataW.trod_string Tryd.underlying9 u2
      obtain rfl : v0 = .int .i64 a0 := by simpa using e0
      obtain rfl : v1 = .int .i64 a1 := by simpa using e1
      obtain rfl : v2 = .string a2 := by simpa using e2
      obtain ⟨l, rfl, hll⟩ := strB_of a2
      have g0 := hcell 0 (by omega)
      have g1 := hcell 1 (by omega)
      have g2 := hcell 2 (by omega)
      rw [add_add] at g0 g1 g2
      simp only [Lit.wf, Bool.and_eq_true, decide_eq_true_eq] at w0 w1
      have m0 : IntKind.i64.min = -9223372036854775808 := rfl
      have m1 : IntKind.i64.max = 9223372036854775807 := rfl
      refine ⟨(a0, a1, l), by simpa using g0, by simpa using g1, by simpa using g2, by show _ ≤ a0; omega, by show a0 ≤ _; omega, by show _ ≤ a1; omega, by show a1 ≤ _; omega, ?_⟩
      show l.length ≤ 9223372036854775807
      rw [hll]
      unfold maxLen at w2
      exact w2
    obtain ⟨f, hf⟩ := Go.Deep.choose_lt each
    refine ⟨some a, len, cap, rfl, by simp only [maxLen] at hm; omega, (List.range len).map f, ⟨by simp, fun hp => ⟨a, rfl, ?_, ?_, fun i hi => ?_⟩⟩, fun e he => ?_⟩
    · have := add_block_of_cell (hf 0 hp).1
      exact this
    · exact add_block_of_cell (hf 0 hp).1
    · have hi' : i < len := by simpa using hi
      obtain ⟨c0, c1, c2, _⟩ := hf i hi'
      have eg : ((List.range len).map f)[i] = f i := by simp
      rw [eg]
      refine ⟨c0, ?_, ?_⟩
      · rw [← add_next]
        exact c1
      · have e1 := add_next a (i * 3)
        have e2 := add_next a (i * 3 + 1)
        rw [e1] at e2
        rw [show i * 3 + 2 = i * 3 + 1 + 1 by omega, e2] at c2
        exact c2
    · obtain ⟨i, hi, rfl⟩ := List.mem_map.1 he
      exact (hf i (List.mem_range.1 hi)).2.2.2
end Go.Proofs.YtammhfnolafknaaDoor
