/- Words for rows: how an argument's slice reads. -/
import Derived.SizedLaws
import Derived.ChangeSlices
import Derived.SliceStrings
import Derived.Deep.Matrix
import Derived.Test.YtammhfnolafknaaDoorW
set_option linter.unusedVariables false
set_option linter.unusedSimpArgs false
namespace Go.Proofs.YtammhfnolafknaaDoor
open Go.RowKit Go.ChangeShapes Go.WideShapes
/-- An argument's slice of whole numbers. -/
def IsRow (k : IntKind) (w : World) (a : Option Addr) (len cap : Nat) (zs : List Int) : Prop :=
  (a = none ∧ len = 0 ∧ cap = 0 ∧ zs = []) ∨
  ∃ x, a = some x ∧ len ≤ cap ∧ cap ≤ maxLen ∧ zs.length = cap ∧ (∀ i, i < zs.length → w.cell? (x.add i) = some (.int k (zs.getD i 0))) ∧ ∀ n ∈ zs, (Lit.int k n).wf = true
/-- An argument's slice of strings. -/
def IsStrs (w : World) (a : Option Addr) (len cap : Nat) (zs : List ByteArray) : Prop :=
  (a = none ∧ len = 0 ∧ cap = 0 ∧ zs = []) ∨
  ∃ x, a = some x ∧ len ≤ cap ∧ cap ≤ maxLen ∧ zs.length = cap ∧ (∀ i, i < zs.length → w.cell? (x.add i) = some (.string (zs.getD i ByteArray.empty))) ∧ ∀ s ∈ zs, s.size ≤ maxLen
theorem sized_ints_ {H : Type} {enc : TypeId × Value → H} {P : Program} {W : World} {base : Nat} {spare : Nat → Bool} {held : Bool} {t e : TypeId} {k : IntKind} {a : Option Addr} {len cap : Nat} {d : DataW H} {ps : List MemPlace} {ts : List TypeId} {ds : List (DataW H)} {j : Nat}
    (hsz : (DataW.weightsEach P ts ds).all (· ≤ reachBytes) = true) (ht : ts[j]? = some t) (hd : ds[j]? = some d) (hu : P.underlying t = some (.slice e)) (he : P.underlying e = some (.int k)) (hc : P.cellsOf e = 1) {B : Nat} (hB : P.bytesOf e = B)
    (h : DataW.Trod enc P W base spare held t (.slice a len cap) d ps) : len * B ≤ 140737488351232 := by
  obtain ⟨fuel, hf⟩ := h
  rcases open_ints hu he hc hf with ⟨hcs, _⟩ | ⟨x, l, c, zs, hcs, _, hl, _, hz, hx, _, _⟩
  · simp [Value.cells] at hcs
    obtain ⟨rfl, rfl, rfl⟩ := hcs
    simp
  · simp [Value.cells] at hcs
    obtain ⟨rfl, rfl, rfl⟩ := hcs
    obtain ⟨hx, _⟩ := Prod.mk.inj hx
    subst hx
    have z := sized_slice hsz ht hd hu
    rw [hB] at z
    have hl2 : len ≤ zs.length := by
      rw [hz]
      split
      · exact hl
      · exact Nat.le_refl _
    have h1 : (lits (H := H) k (zs.take len)).length + (lits (H := H) k (zs.drop len)).length = zs.length := by
      simp [lits]
      omega
    rw [h1] at z
    exact Nat.le_trans (Nat.mul_le_mul_right _ hl2) z
theorem add_block_of_cell {w : World} {x : Addr} {i : Nat} {v : Value} (h : w.cell? (x.add i) = some v) : x.block < w.heap.size := by
  have := World.block_lt_of_cell? w _ h
  rwa [block_add] at this
theorem IsRow.cap_le {k : IntKind} {w : World} {a : Option Addr} {len cap : Nat} {zs : List Int} (h : IsRow k w a len cap zs) : cap ≤ 9223372036854775807 := by
  rcases h with ⟨_, _, h, _⟩ | ⟨_, _, _, h, _⟩
  · omega
  · simpa [maxLen] using h
/-- Numbers as bytes. -/
def bytesOfInts (zs : List Int) : List UInt8 := zs.map fun n => UInt8.ofNat n.toNat
/-- An argument's bytes. -/
theorem IsRow.bytes_ {w : World} {a : Option Addr} {len cap : Nat} {zs : List Int} (h : IsRow .u8 w a len cap zs) : (bytesOfInts (zs.take len)).length = len ∧ Reads w (fun k => k < w.heap.size) a len (b8s (bytesOfInts (zs.take len))) ∧ len ≤ cap := by
  rcases h with ⟨rfl, rfl, rfl, rfl⟩ | ⟨x, rfl, hl, hm, hz, hc, hw⟩
  · exact ⟨rfl, Reads.nil _ _ _, by omega⟩
  · refine ⟨by simp [bytesOfInts]; omega, ⟨by simp [b8s, bytesOfInts]; omega, fun hn => ⟨x, rfl, ?_, ?_, ?_⟩⟩, hl⟩
    · exact add_block_of_cell (hc 0 (by omega))
    · exact add_block_of_cell (hc 0 (by omega))
    · intro j u hu
      have hj : j < len := by
        rcases Nat.lt_or_ge j len with h | h
        · exact h
        · rw [b8s, bytesOfInts, List.getElem?_eq_none (by simp; omega)] at hu; cases hu
      have hjz : j < zs.length := by omega
      rw [hc j hjz]
      have hu' : u = B8 (UInt8.ofNat (zs[j]).toNat) := by
        simp [b8s, bytesOfInts, List.getElem?_map, List.getElem?_take, hj, List.getElem?_eq_getElem hjz] at hu
        exact hu.symm
      rw [hu', B8]
      have hwf := hw zs[j] (List.getElem_mem hjz)
      simp only [Lit.wf, Bool.and_eq_true, decide_eq_true_eq] at hwf
      have h0 : 0 ≤ zs[j] := hwf.1
      have h1 : zs[j] ≤ 255 := hwf.2
      have : ((UInt8.ofNat (zs[j]).toNat).toNat : Int) = zs[j] := by
        simp
        omega
      rw [this]
      simp [List.getD_eq_getElem?_getD, List.getElem?_eq_getElem hjz]
theorem IsRow.bytes {w : World} {a : Option Addr} {len cap : Nat} {zs : List Int} (h : IsRow .u8 w a len cap zs) : ∃ l : List UInt8, l.length = len ∧ Reads w (fun k => k < w.heap.size) a len (b8s l) ∧ len ≤ cap := ⟨_, h.bytes_⟩
/-- An argument's numbers. -/
theorem IsRow.reads {k : IntKind} {w : World} {a : Option Addr} {len cap : Nat} {zs : List Int} (h : IsRow k w a len cap zs) : Reads w (fun b => b < w.heap.size) a len ((zs.take len).map (Value.int k)) ∧ len ≤ cap ∧ (zs.take len).length = len ∧ ∀ n ∈ zs.take len, (Lit.int k n).wf = true := by
  rcases h with ⟨rfl, rfl, rfl, rfl⟩ | ⟨x, rfl, hl, hm, hz, hc, hw⟩
  · exact ⟨Reads.nil _ _ _, by omega, rfl, by simp⟩
  · refine ⟨⟨by simp; omega, fun hn => ⟨x, rfl, add_block_of_cell (hc 0 (by omega)), add_block_of_cell (hc 0 (by omega)), ?_⟩⟩, hl, by simp; omega, fun n hn => hw n (List.mem_of_mem_take hn)⟩
    intro j u hu
    have hj : j < len := by
      rcases Nat.lt_or_ge j len with h | h
      · exact h
      · rw [List.getElem?_eq_none (by simp; omega)] at hu; cases hu
    have hjz : j < zs.length := by omega
    rw [hc j hjz]
    simp [List.getElem?_map, List.getElem?_take, hj, List.getElem?_eq_getElem hjz] at hu
    simp [List.getD_eq_getElem?_getD, List.getElem?_eq_getElem hjz, hu]
/-- An argument's strings. -/
theorem IsStrs.reads {w : World} {a : Option Addr} {len cap : Nat} {zs : List ByteArray} (h : IsStrs w a len cap zs) : Reads w (fun b => b < w.heap.size) a len ((zs.take len).map Value.string) ∧ len ≤ cap ∧ (zs.take len).length = len ∧ ∀ s ∈ zs.take len, s.size ≤ maxLen := by
  rcases h with ⟨rfl, rfl, rfl, rfl⟩ | ⟨x, rfl, hl, hm, hz, hc, hw⟩
  · exact ⟨Reads.nil _ _ _, by omega, rfl, by simp⟩
  · refine ⟨⟨by simp; omega, fun hn => ⟨x, rfl, add_block_of_cell (hc 0 (by omega)), add_block_of_cell (hc 0 (by omega)), ?_⟩⟩, hl, by simp; omega, fun n hn => hw n (List.mem_of_mem_take hn)⟩
    intro j u hu
    have hj : j < len := by
      rcases Nat.lt_or_ge j len with h | h
      · exact h
      · rw [List.getElem?_eq_none (by simp; omega)] at hu; cases hu
    have hjz : j < zs.length := by omega
    rw [hc j hjz]
    simp [List.getElem?_map, List.getElem?_take, hj, List.getElem?_eq_getElem hjz] at hu
    simp [List.getD_eq_getElem?_getD, List.getElem?_eq_getElem hjz, hu]
/-- A list of byte slices that came in; all lies in S. -/
def RowsIn (w : World) (S : Nat → Prop) (A : Option Addr) (n : Nat) (ls : List (List UInt8)) : Prop :=
  ls.length = n ∧ (0 < n → ∃ ad, A = some ad ∧ S ad.block ∧ ∀ j (h : j < ls.length), ∃ B m c, w.cell? (ad.add j) = some (.slice B m c) ∧ m ≤ c ∧ c ≤ 9223372036854775807 ∧ Reads w S B m (b8s ls[j]))
theorem RowsIn.kept {w w' : World} {S T : Nat → Prop} {A : Option Addr} {n : Nat} {ls : List (List UInt8)} (h : RowsIn w S A n ls) (k : Kept w w' T) (hn : ∀ b, S b → ¬ T b) : RowsIn w' S A n ls :=
  ⟨h.1, fun hp => by
    obtain ⟨ad, e, hs, hc⟩ := h.2 hp
    refine ⟨ad, e, hs, fun j hj => ?_⟩
    obtain ⟨B, m, c, h1, h2, h3, h4⟩ := hc j hj
    exact ⟨B, m, c, k.cell h1 (by rw [block_add]; exact hn _ hs), h2, h3, h4.kept k fun b _ hb => hn b hb⟩⟩
theorem RowsIn.kept0 {w w' : World} {S : Nat → Prop} {A : Option Addr} {n : Nat} {ls : List (List UInt8)} (h : RowsIn w S A n ls) (k : Kept w w' NoB) : RowsIn w' S A n ls := h.kept k fun _ _ x => x

/-- An argument that is a slice of slices of whole numbers. -/
def IsRows (k : IntKind) (w : World) (a : Option Addr) (len cap : Nat) : Prop :=
  (a = none ∧ len = 0 ∧ cap = 0) ∨ ∃ (x : Addr) (A : Nat → Option Addr) (L C : Nat → Nat) (Z : Nat → List Int), a = some x ∧ len ≤ cap ∧ cap ≤ maxLen ∧
    ∀ r, r < cap → w.cell? (x.add r) = some (.slice (A r) (L r) (C r)) ∧ IsRow k w (A r) (L r) (C r) (Z r)
theorem IsRows.rows {w : World} {a : Option Addr} {len cap : Nat} (h : IsRows .u8 w a len cap) : ∃ ls : List (List UInt8), RowsIn w (fun k => k < w.heap.size) a len ls ∧ len ≤ cap := by
  rcases h with ⟨rfl, rfl, rfl⟩ | ⟨x, A, L, C, Z, rfl, hl, hm, hr⟩
  · exact ⟨[], ⟨rfl, fun h => absurd h (by omega)⟩, by omega⟩
  · refine ⟨(List.range len).map fun r => bytesOfInts ((Z r).take (L r)), ⟨by simp, fun hn => ⟨x, rfl, add_block_of_cell (hr 0 (by omega)).1, fun j hj => ?_⟩⟩, hl⟩
    have hj' : j < len := by simpa using hj
    obtain ⟨h1, h2⟩ := hr j (by omega)
    refine ⟨A j, L j, C j, h1, h2.bytes_.2.2, ?_, ?_⟩
    · rcases h2 with ⟨_, _, h3, _⟩ | ⟨_, _, _, h3, _⟩
      · omega
      · simpa [maxLen] using h3
    · have := h2.bytes_.2.1
      simpa using this
theorem isRows_of {k : IntKind} {w : World} {base : Nat} {x : Addr} {len cap : Nat} {A : Nat → Option Addr} {L C : Nat → Nat} {Z : Nat → List Int} (hl : len ≤ cap) (hm : cap ≤ maxLen)
    (hr : ∀ r, r < cap → w.cell? (x.add r) = some (.slice (A r) (L r) (C r)) ∧ L r ≤ C r ∧ C r ≤ maxLen ∧ (Z r).length = C r ∧ (∀ n ∈ Z r, (Lit.int k n).wf = true) ∧ (A r = none → C r = 0) ∧
        ∀ a', A r = some a' → base ≤ a'.block ∧ ∀ c, c < C r → w.cell? (a'.add c) = some (.int k ((Z r).getD c 0))) : IsRows k w (some x) len cap := by
  refine .inr ⟨x, A, L, C, Z, rfl, hl, hm, fun r hrc => ?_⟩
  obtain ⟨h1, h2, h3, h4, h5, h6, h7⟩ := hr r hrc
  refine ⟨h1, ?_⟩
  cases hA : A r with
  | none =>
    have hC := h6 hA
    refine .inl ⟨rfl, by omega, hC, List.eq_nil_of_length_eq_zero (by omega)⟩
  | some a' => exact .inr ⟨a', rfl, h2, h3, h4, fun i hi => (h7 a' hA).2 i (by omega), h5⟩
end Go.Proofs.YtammhfnolafknaaDoor
