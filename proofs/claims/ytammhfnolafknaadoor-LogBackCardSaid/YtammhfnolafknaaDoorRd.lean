/- Transcripts: what Read computes. -/
import Derived.Test.YtammhfnolafknaaDoorRdP
import Derived.Test.YtammhfnolafknaaDoorLogF
import Derived.Test.YtammhfnolafknaaDoorLogFew
import Derived.Deep.RegionHeld3
set_option linter.unusedVariables false
set_option linter.unusedSimpArgs false
namespace Go.Proofs.YtammhfnolafknaaDoor
open Go.RowKit Go.Shelf Go.Lib

theorem cut_calls (w : World) (l : List UInt8) (x : UInt8) (X : ByteArray) (hX : X = strB [x]) (hl : l.length ≤ 1099511627) (hm : MaxI w) :
    Calls Tryd.prog 31 #[.string (strB l), .string X] w fun en w' => en = .returned (.tuple #[.string (strB (cutX x l).1), .string (strB (cutX x l).2.1), .bool (cutX x l).2.2]) ∧ Kept w w' NoB := by
  subst hX
  obtain ⟨m, hm⟩ := hm
  refine (Any.strings_Cut shLays145 (strB l) (strB [x]) m w (by rw [strB_size]; omega) hm).mono fun en w' h => ⟨?_, ?_⟩
  · rw [h.1, strB_toList, strB_toList, cutB_X]
    rfl
  · obtain ⟨n, rfl⟩ := h.2
    exact (Kept.refl _ _).drewN n
theorem splitN_calls (w : World) (l : List UInt8) (hl : l.length ≤ 1099511627) (hm : MaxI w) :
    Calls Tryd.prog 32 #[.string (strB l), .string ⟨#[32]⟩, .int .i64 3] w fun en w' => ∃ c, en = .returned (.slice (some ⟨w.heap.size, 0, none⟩) (pcs l).length c) ∧
      Reads w' (fun k => k = w.heap.size) (some ⟨w.heap.size, 0, none⟩) (pcs l).length (strs (pcs l)) ∧ (pcs l).length ≤ c ∧ Kept w w' NoB := by
  obtain ⟨m, hm⟩ := hm
  have hd := Lib.splitB_data ⟨#[32]⟩ 0 (min 3 ((strB l).size + 1) - 1) (strB l)
  rw [strB_toList] at hd
  have e44 : (⟨#[32]⟩ : ByteArray).data.toList = [32] := rfl
  rw [e44, strB_size, splitN_three] at hd
  have hlen : (Lib.splitB ⟨#[32]⟩ 0 (min 3 ((strB l).size + 1) - 1) (strB l)).length = (pcs l).length := by rw [strB_size, ← hd, List.length_map]
  have hle := Lib.splitB_length_le ⟨#[32]⟩ 0 (min 3 ((strB l).size + 1) - 1) (strB l)
  have hst : (Lib.splitB ⟨#[32]⟩ 0 (min 3 ((strB l).size + 1) - 1) (strB l)).map Value.string = strs (pcs l) := by
    rw [strB_size, ← hd, strs, List.map_map]
    refine List.map_congr_left fun s _ => ?_
    simp [strB_data]
  refine (Any.strings_SplitN { shLays147 with } (by kernel_rfl) (strB l) ⟨#[32]⟩ 3 m w (by rw [strB_size]; omega) hm (by decide) (by decide) (by decide)).mono fun en w' h => ?_
  refine ⟨min 3 ((strB l).size + 1), by rw [h.1, hlen], ?_, by rw [← hlen]; omega, by rw [h.2]; exact (Kept.refl _ _).alloc _⟩
  rw [h.2]
  refine ⟨by rw [strs_length], fun hn => ⟨_, rfl, rfl, by simp, fun j u hu => ?_⟩⟩
  have hj : j < (strs (pcs l)).length := (List.getElem?_eq_some_iff.1 hu).1
  rw [add_lit0, cell_of_row _ _ j _ _ (0, 0) (heap_alloc_new w _)]
  unfold Lib.cellsOf
  rw [hst, List.getElem?_toArray, List.getElem?_append_left hj]
  exact hu
theorem kind_calls (w : World) (b : List UInt8) (hm : MaxI w) :
    Calls Tryd.prog 34 #[.string ⟨#[63, 62, 60, 61, 33]⟩, .string (strB b)] w fun en w' => en = .returned (.int .i64 (kindOf b)) ∧ w = w' := by
  obtain ⟨m, hm⟩ := hm
  refine (Any.strings_Index shLays143 ⟨#[63, 62, 60, 61, 33]⟩ (strB b) m w (by decide) hm).mono fun en w' h => ⟨?_, h.2.symm⟩
  rw [h.1, strB_toList]
  rfl
theorem EntR.last {w : World} {S : Nat → Prop} {A : Option Addr} {n : Nat} {es : List Ent} {e : Ent} (h : EntR w S A (n + 1) (es ++ [e])) : ∃ ad, A = some ad ∧ EntR w S (some (ad.add (n * 3))) 1 [e] ∧
    w.cell? (ad.add (n * 3)) = some (.int .i64 e.1) ∧ w.cell? ⟨(ad.add (n * 3)).block, (ad.add (n * 3)).off + 1, none⟩ = some (.int .i64 e.2.1) ∧ w.cell? ⟨(ad.add (n * 3)).block, (ad.add (n * 3)).off + 2, none⟩ = some (.string (strB e.2.2)) := by
  have hl : es.length = n := by have := h.1; rw [List.length_append, List.length_singleton] at this; omega
  obtain ⟨ad, hA, hS, hlt, hc⟩ := h.2 (by omega)
  have hc1 := hc n (by rw [List.length_append, List.length_singleton]; omega)
  have he : (es ++ [e])[n]'(by rw [List.length_append, List.length_singleton]; omega) = e := by
    subst hl
    simp
  rw [he] at hc1
  refine ⟨ad, hA, ⟨rfl, fun _ => ⟨_, rfl, by rw [block_add]; exact hS, by rw [block_add]; exact hlt, fun i hi => ?_⟩⟩, hc1⟩
  obtain rfl : i = 0 := by simpa using hi
  rw [Nat.zero_mul, add_zero_]
  exact hc1
/-- What Read hands back. -/
def RdPost (w : World) (r : Option (List Ent)) (en : Ending) (w' : World) : Prop :=
  Kept w w' NoB ∧ match r with
    | none => en = .returned (.tuple #[.slice none 0 0, .bool false])
    | some es => ∃ v, en = .returned (.tuple #[v, .bool true]) ∧ RowE w' (fun k => w.heap.size ≤ k) v es
theorem readOne_less {s r : List UInt8} {e : Ent} (h : readOne s = some (e, r)) (hs : s ≠ []) : r = (cutX 10 s).2.1 ∧ r.length < s.length := by
  have hr : r = (cutX 10 s).2.1 := by
    unfold readOne at h
    split at h
    · split at h
      · split at h
        · split at h
          · injection h with h; injection h with _ h; exact h.symm
          · cases h
        · cases h
      · cases h
    · cases h
  refine ⟨hr, ?_⟩
  rcases cutX_cases 10 s with ⟨a, q, h1, _, h2⟩ | ⟨_, h2⟩
  · rw [hr, h2]
    have := congrArg List.length h1
    rw [List.length_append, List.length_cons] at this
    show q.length < s.length
    omega
  · rw [hr, h2]
    exact List.length_pos_iff.2 hs
theorem readL_more : ∀ (k m : Nat) (s : List UInt8), s.length ≤ k → k ≤ m → readL m s = readL k s
  | 0, m, s, h, _ => by
    obtain rfl : s = [] := List.length_eq_zero_iff.1 (by omega)
    cases m <;> rfl
  | k + 1, m, s, h, hm => by
    obtain ⟨m, rfl⟩ : ∃ m', m = m' + 1 := ⟨m - 1, by omega⟩
    rw [readL, readL]
    by_cases hs : s = []
    · rw [if_pos hs, if_pos hs]
    · rw [if_neg hs, if_neg hs]
      cases h1 : readOne s with
      | none => rfl
      | some x =>
        obtain ⟨e, r⟩ := x
        have := (readOne_less h1 hs).2
        rw [Option.bind_some, Option.bind_some]
        simp only
        rw [readL_more k m r (by omega) (by omega)]
def readF (s : List UInt8) : Option (List Ent) := readL s.length s
theorem readF_nil : readF [] = some [] := rfl
theorem readF_step {s : List UInt8} (hs : s ≠ []) : readF s = (readOne s).bind fun x => (readF x.2).map (x.1 :: ·) := by
  have hp : 0 < s.length := List.length_pos_iff.2 hs
  unfold readF
  obtain ⟨k, hk⟩ : ∃ k, s.length = k + 1 := ⟨s.length - 1, by omega⟩
  rw [hk, readL, if_neg hs]
  cases h1 : readOne s with
  | none => rfl
  | some x =>
    obtain ⟨e, r⟩ := x
    have := (readOne_less h1 hs).2
    rw [Option.bind_some, Option.bind_some]
    simp only
    rw [readL_more r.length k r (Nat.le_refl _) (by omega)]
def RdS (w0 : World) (s : List UInt8) (gk : Nat) (v0 v4 : Value) (wr : World) : Prop :=
  ∃ (t : List UInt8) (es : List Ent), gk = t.length ∧ v0 = .string (strB t) ∧ RowE wr (fun k => w0.heap.size ≤ k) v4 es ∧ Kept w0 wr NoB ∧ readF s = (readF t).map (es ++ ·) ∧ es.length + t.length ≤ s.length
end Go.Proofs.YtammhfnolafknaaDoor
