/- Variables: an argument's things that are done. -/
import Derived.Test.YtcggpedebcamdaaDoorVarS
import Derived.Test.YtcggpedebcamdaaDoorRowW
import Derived.Deep.Slices
import Derived.Deep.Strs
set_option linter.unusedVariables false
set_option linter.unusedSimpArgs false
namespace Go.Proofs.YtcggpedebcamdaaDoor
open Go.RowKit Go.Shelf Go.ChangeShapes Go.WideShapes

abbrev OpV := Nat × List UInt8 × List UInt8
theorem add_nextO (a : Addr) (k : Nat) : a.add (k + 1) = ⟨(a.add k).block, (a.add k).off + 1, none⟩ := by
  unfold Addr.add
  by_cases h : k = 0 <;> simp [h]
  omega
def OpR (w : World) (S : Nat → Prop) (A : Option Addr) (n : Nat) (es : List OpV) : Prop :=
  es.length = n ∧ (0 < n → ∃ ad, A = some ad ∧ S ad.block ∧ ad.block < w.heap.size ∧ ∀ i (h : i < es.length), w.cell? (ad.add (i * 3)) = some (.int .u8 (es[i].1 : Int)) ∧ w.cell? ⟨(ad.add (i * 3)).block, (ad.add (i * 3)).off + 1, none⟩ = some (.string (strB es[i].2.1)) ∧ w.cell? ⟨(ad.add (i * 3)).block, (ad.add (i * 3)).off + 2, none⟩ = some (.string (strB es[i].2.2)))
theorem OpR.kept0 {w w' : World} {S : Nat → Prop} {A : Option Addr} {n : Nat} {es : List OpV} (h : OpR w S A n es) (k : Kept w w' NoB) : OpR w' S A n es :=
  ⟨h.1, fun hp => by
    obtain ⟨ad, e, hs, hl, hc⟩ := h.2 hp
    refine ⟨ad, e, hs, Nat.lt_of_lt_of_le hl k.size, fun i hi => ?_⟩
    obtain ⟨c0, c1, c2⟩ := hc i hi
    exact ⟨k.cell c0 fun x => x, k.cell c1 fun x => x, k.cell c2 fun x => x⟩⟩
theorem OpR.at_ {w : World} {S : Nat → Prop} {A : Option Addr} {n : Nat} {es : List OpV} (h : OpR w S A n es) {i : Nat} (hi : i < n) (hi' : i < es.length) : ∃ ad, A = some ad ∧ (ad.add (i * 3)).block < w.heap.size ∧ w.cell? (ad.add (i * 3)) = some (.int .u8 (es[i].1 : Int)) ∧ w.cell? ⟨(ad.add (i * 3)).block, (ad.add (i * 3)).off + 1, none⟩ = some (.string (strB es[i].2.1)) ∧ w.cell? ⟨(ad.add (i * 3)).block, (ad.add (i * 3)).off + 2, none⟩ = some (.string (strB es[i].2.2)) := by
  obtain ⟨ad, e, _, hl, hc⟩ := h.2 (by omega)
  exact ⟨ad, e, by rw [block_add]; exact hl, hc i hi'⟩
def IsEnts (w : World) (a : Option Addr) (len cap : Nat) : Prop := len ≤ 9223372036854775807 ∧ ∃ es, OpR w (fun b => b < w.heap.size) a len es ∧ ∀ e ∈ es, e.1 < 256
theorem threeO {α : Type} (l : List α) (h : l.length = 3) : ∃ a b c, l = [a, b, c] := by
  match l, h with
  | [a, b, c], _ => exact ⟨a, b, c, rfl⟩
set_option maxRecDepth 100000 in
set_option maxHeartbeats 1000000 in
theorem open_ents {H : Type} {enc : TypeId × Value → H} {W : World} {spare : Nat → Bool} {held : Bool} {fuel : Nat} {cs : List Value} {x : DataW H × List MemPlace} (h : DataW.trod enc Tryd.prog W 0 spare held fuel 39 cs = some x) :
    ∃ a len cap, cs = [.slice a len cap] ∧ IsEnts W a len cap := by
  have cE : Tryd.prog.cellsOf 44 = 3 := by kernel_rfl
  have cI : Tryd.prog.cellsOf 5 = 1 := by kernel_rfl
  have cS : Tryd.prog.cellsOf 9 = 1 := by kernel_rfl
  rcases Go.Deep.open_slice Tryd.underlying39 h with ⟨rfl, _⟩ | ⟨a, len, cap, m, n, D, Pl, rfl, hb, hl, hm, hmm, _, hel⟩
  · exact ⟨none, 0, 0, rfl, by omega, [], ⟨rfl, fun h => absurd h (by omega)⟩, by simp⟩
  · have hlm : len ≤ m := by rw [hmm]; split <;> omega
    have each : ∀ i, i < len → ∃ e : OpV, W.cell? (a.add (i * 3)) = some (.int .u8 (e.1 : Int)) ∧ W.cell? (a.add (i * 3 + 1)) = some (.string (strB e.2.1)) ∧ W.cell? (a.add (i * 3 + 2)) = some (.string (strB e.2.2)) ∧ e.1 < 256 := by
      intro i hi
      obtain ⟨cs', h1, h2⟩ := hel i (by omega)
      rw [cE] at h1
      obtain ⟨_, hlen, hcell⟩ := World.cells?_some h1
      obtain ⟨y0, y1, y2, k, _, _, t0, t1, t2⟩ := Go.Deep.trod_struct3 Tryd.underlying44 h2
      obtain ⟨v0, v1, v2, rfl⟩ := threeO cs' hlen
      have u0 : DataW.trod enc Tryd.prog W 0 spare held k 5 [v0] = some y0 := by simpa [cI, cS] using t0
      have u1 : DataW.trod enc Tryd.prog W 0 spare held k 9 [v1] = some y1 := by simpa [cI, cS] using t1
      have u2 : DataW.trod enc Tryd.prog W 0 spare held k 9 [v2] = some y2 := by simpa [cI, cS] using t2
      obtain ⟨a0, e0, _, w0⟩ := DataW.trod_int Tryd.underlying5 u0
      obtain ⟨a1, e1, _, w1⟩ := DataW.trod_string Tryd.underlying9 u1
      obtain ⟨a2, e2, _, w2⟩ := DataW.trod_string Tryd.underlying9 u2
      obtain rfl : v0 = .int .u8 a0 := by simpa using e0
      obtain rfl : v1 = .string a1 := by simpa using e1
      obtain rfl : v2 = .string a2 := by simpa using e2
      obtain ⟨l1, rfl, _⟩ := strB_of a1
      obtain ⟨l2, rfl, _⟩ := strB_of a2
      have g0 := hcell 0 (by omega)
      have g1 := hcell 1 (by omega)
      have g2 := hcell 2 (by omega)
      rw [add_add] at g0 g1 g2
      simp only [Lit.wf, Bool.and_eq_true, decide_eq_true_eq] at w0
      have m0 : IntKind.u8.min = 0 := rfl
      have m1 : IntKind.u8.max = 255 := rfl
      have ha : (a0.toNat : Int) = a0 := by omega
      refine ⟨(a0.toNat, l1, l2), ?_, by simpa using g1, by simpa using g2, by show a0.toNat < 256; omega⟩
      show W.cell? (a.add (i * 3)) = some (.int .u8 (a0.toNat : Int))
      rw [ha]
      simpa using g0
    obtain ⟨f, hf⟩ := Go.Deep.choose_lt each
    have hblk : ∀ i, i < len → a.block < W.heap.size := fun i hi => by
      have := World.block_lt_of_cell? W _ (hf i hi).1
      rwa [block_add] at this
    refine ⟨some a, len, cap, rfl, by simp only [maxLen] at hm; omega, (List.range len).map f, ⟨by simp, fun hp => ⟨a, rfl, hblk 0 hp, hblk 0 hp, fun i hi => ?_⟩⟩, fun e he => ?_⟩
    · have hi' : i < len := by simpa using hi
      obtain ⟨c0, c1, c2, _⟩ := hf i hi'
      have eg : ((List.range len).map f)[i] = f i := by simp
      rw [eg]
      refine ⟨c0, ?_, ?_⟩
      · rw [← add_nextO]
        exact c1
      · have e1 := add_nextO a (i * 3)
        have e2 := add_nextO a (i * 3 + 1)
        rw [e1] at e2
        rw [show i * 3 + 2 = i * 3 + 1 + 1 by omega, e2] at c2
        exact c2
    · obtain ⟨i, hi, rfl⟩ := List.mem_map.1 he
      exact (hf i (List.mem_range.1 hi)).2.2.2
end Go.Proofs.YtcggpedebcamdaaDoor
