/- The program's sum of bytes. -/
import Derived.Test.YthnebhnlkjkcmaaDoorDadd
import Derived.Test.YthnebhnlkjkcmaaDoorMdS
import Derived.Laws.CopyOwn
import Derived.StillTailTactics
set_option linter.unusedVariables false
set_option linter.unusedSimpArgs false
namespace Go.Proofs.YthnebhnlkjkcmaaDoor
open Go.RowKit

theorem info_u8 : ∃ i, Tryd.prog.info? 5 = some i ∧ i.size = 1 := by
  obtain ⟨i, hi, hs⟩ := Option.map_eq_some_iff.1 (show (Tryd.prog.info? 5).map (fun i => i.size) = some 1 by kernel_rfl)
  exact ⟨i, hi, hs⟩
theorem own4 (w : World) (g : Nat) (a' b' c' d' : Value) : Kept w ((((w.setCell ⟨g, 0, none⟩ a').setCell ⟨g, 1, none⟩ b').setCell ⟨g, 2, none⟩ c').setCell ⟨g, 3, none⟩ d') (fun b => b = g) := by
  have h0 : Kept w w (fun b => b = g) := Kept.refl w _
  have h1 := h0.setCell (p := ⟨g, 0, none⟩) (.inl rfl) a'
  have h2 := h1.setCell (p := ⟨g, 1, none⟩) (.inl rfl) b'
  have h3 := h2.setCell (p := ⟨g, 2, none⟩) (.inl rfl) c'
  exact h3.setCell (p := ⟨g, 3, none⟩) (.inl rfl) d'
/-- No byte of 128. -/
def z128A : Array Value := (b8s (List.replicate 128 0)).toArray
theorem ez128 : Tryd.zeroCells68 = z128A := by kernel_rfl
theorem blk_reads {w : World} {g : Nat} {t : TypeId} {X : List UInt8} (h : Blk w g t (b8s X).toArray) (hX : X.length = 128) {k : Nat} (hk : k ≤ 128) : Reads w (fun b => b = g) (some ⟨g, k, none⟩) (128 - k) (b8s (X.drop k)) := by
  refine ⟨by rw [b8s_length, List.length_drop, hX], fun _ => ⟨_, rfl, rfl, h.lt, fun j u hu => ?_⟩⟩
  have e : ((⟨g, k, none⟩ : Addr).add j) = ⟨g, k + j, none⟩ := by unfold Addr.add; split <;> simp_all
  rw [e, h.cell, List.getElem?_toArray, ← hu, ← b8s_drop, List.getElem?_drop]
theorem list16 (l : List UInt8) (h : l.length = 16) : ∃ r0 r1 r2 r3 r4 r5 r6 r7 r8 r9 r10 r11 r12 r13 r14 r15, l = [r0, r1, r2, r3, r4, r5, r6, r7, r8, r9, r10, r11, r12, r13, r14, r15] := by
  match l, h with
  | [r0, r1, r2, r3, r4, r5, r6, r7, r8, r9, r10, r11, r12, r13, r14, r15], _ => exact ⟨r0, r1, r2, r3, r4, r5, r6, r7, r8, r9, r10, r11, r12, r13, r14, r15, rfl⟩
set_option maxHeartbeats 4000000 in
theorem blk16 {w : World} {g : Nat} {t : TypeId} (h : Blk w g t #[.int .u8 0, .int .u8 0, .int .u8 0, .int .u8 0, .int .u8 0, .int .u8 0, .int .u8 0, .int .u8 0, .int .u8 0, .int .u8 0, .int .u8 0, .int .u8 0, .int .u8 0, .int .u8 0, .int .u8 0, .int .u8 0]) (r0 r1 r2 r3 r4 r5 r6 r7 r8 r9 r10 r11 r12 r13 r14 r15 : UInt8) :
    Blk ((((((((((((((((w.setCell ⟨g, 0, none⟩ (.int .u8 (r0.toNat : Int))).setCell ⟨g, 1, none⟩ (.int .u8 (r1.toNat : Int))).setCell ⟨g, 2, none⟩ (.int .u8 (r2.toNat : Int))).setCell ⟨g, 3, none⟩ (.int .u8 (r3.toNat : Int))).setCell ⟨g, 4, none⟩ (.int .u8 (r4.toNat : Int))).setCell ⟨g, 5, none⟩ (.int .u8 (r5.toNat : Int))).setCell ⟨g, 6, none⟩ (.int .u8 (r6.toNat : Int))).setCell ⟨g, 7, none⟩ (.int .u8 (r7.toNat : Int))).setCell ⟨g, 8, none⟩ (.int .u8 (r8.toNat : Int))).setCell ⟨g, 9, none⟩ (.int .u8 (r9.toNat : Int))).setCell ⟨g, 10, none⟩ (.int .u8 (r10.toNat : Int))).setCell ⟨g, 11, none⟩ (.int .u8 (r11.toNat : Int))).setCell ⟨g, 12, none⟩ (.int .u8 (r12.toNat : Int))).setCell ⟨g, 13, none⟩ (.int .u8 (r13.toNat : Int))).setCell ⟨g, 14, none⟩ (.int .u8 (r14.toNat : Int))).setCell ⟨g, 15, none⟩ (.int .u8 (r15.toNat : Int))) g t (b8s [r0, r1, r2, r3, r4, r5, r6, r7, r8, r9, r10, r11, r12, r13, r14, r15]).toArray := by
  have h0 : Blk (w.setCell ⟨g, 0, none⟩ (.int .u8 (r0.toNat : Int))) g t #[.int .u8 (r0.toNat : Int), .int .u8 0, .int .u8 0, .int .u8 0, .int .u8 0, .int .u8 0, .int .u8 0, .int .u8 0, .int .u8 0, .int .u8 0, .int .u8 0, .int .u8 0, .int .u8 0, .int .u8 0, .int .u8 0, .int .u8 0] := h.set_ 0 (.int .u8 (r0.toNat : Int))
  have h1 : Blk ((w.setCell ⟨g, 0, none⟩ (.int .u8 (r0.toNat : Int))).setCell ⟨g, 1, none⟩ (.int .u8 (r1.toNat : Int))) g t #[.int .u8 (r0.toNat : Int), .int .u8 (r1.toNat : Int), .int .u8 0, .int .u8 0, .int .u8 0, .int .u8 0, .int .u8 0, .int .u8 0, .int .u8 0, .int .u8 0, .int .u8 0, .int .u8 0, .int .u8 0, .int .u8 0, .int .u8 0, .int .u8 0] := h0.set_ 1 (.int .u8 (r1.toNat : Int))
  have h2 : Blk (((w.setCell ⟨g, 0, none⟩ (.int .u8 (r0.toNat : Int))).setCell ⟨g, 1, none⟩ (.int .u8 (r1.toNat : Int))).setCell ⟨g, 2, none⟩ (.int .u8 (r2.toNat : Int))) g t #[.int .u8 (r0.toNat : Int), .int .u8 (r1.toNat : Int), .int .u8 (r2.toNat : Int), .int .u8 0, .int .u8 0, .int .u8 0, .int .u8 0, .int .u8 0, .int .u8 0, .int .u8 0, .int .u8 0, .int .u8 0, .int .u8 0, .int .u8 0, .int .u8 0, .int .u8 0] := h1.set_ 2 (.int .u8 (r2.toNat : Int))
  have h3 : Blk ((((w.setCell ⟨g, 0, none⟩ (.int .u8 (r0.toNat : Int))).setCell ⟨g, 1, none⟩ (.int .u8 (r1.toNat : Int))).setCell ⟨g, 2, none⟩ (.int .u8 (r2.toNat : Int))).setCell ⟨g, 3, none⟩ (.int .u8 (r3.toNat : Int))) g t #[.int .u8 (r0.toNat : Int), .int .u8 (r1.toNat : Int), .int .u8 (r2.toNat : Int), .int .u8 (r3.toNat : Int), .int .u8 0, .int .u8 0, .int .u8 0, .int .u8 0, .int .u8 0, .int .u8 0, .int .u8 0, .int .u8 0, .int .u8 0, .int .u8 0, .int .u8 0, .int .u8 0] := h2.set_ 3 (.int .u8 (r3.toNat : Int))
  have h4 : Blk (((((w.setCell ⟨g, 0, none⟩ (.int .u8 (r0.toNat : Int))).setCell ⟨g, 1, none⟩ (.int .u8 (r1.toNat : Int))).setCell ⟨g, 2, none⟩ (.int .u8 (r2.toNat : Int))).setCell ⟨g, 3, none⟩ (.int .u8 (r3.toNat : Int))).setCell ⟨g, 4, none⟩ (.int .u8 (r4.toNat : Int))) g t #[.int .u8 (r0.toNat : Int), .int .u8 (r1.toNat : Int), .int .u8 (r2.toNat : Int), .int .u8 (r3.toNat : Int), .int .u8 (r4.toNat : Int), .int .u8 0, .int .u8 0, .int .u8 0, .int .u8 0, .int .u8 0, .int .u8 0, .int .u8 0, .int .u8 0, .int .u8 0, .int .u8 0, .int .u8 0] := h3.set_ 4 (.int .u8 (r4.toNat : Int))
  have h5 : Blk ((((((w.setCell ⟨g, 0, none⟩ (.int .u8 (r0.toNat : Int))).setCell ⟨g, 1, none⟩ (.int .u8 (r1.toNat : Int))).setCell ⟨g, 2, none⟩ (.int .u8 (r2.toNat : Int))).setCell ⟨g, 3, none⟩ (.int .u8 (r3.toNat : Int))).setCell ⟨g, 4, none⟩ (.int .u8 (r4.toNat : Int))).setCell ⟨g, 5, none⟩ (.int .u8 (r5.toNat : Int))) g t #[.int .u8 (r0.toNat : Int), .int .u8 (r1.toNat : Int), .int .u8 (r2.toNat : Int), .int .u8 (r3.toNat : Int), .int .u8 (r4.toNat : Int), .int .u8 (r5.toNat : Int), .int .u8 0, .int .u8 0, .int .u8 0, .int .u8 0, .int .u8 0, .int .u8 0, .int .u8 0, .int .u8 0, .int .u8 0, .int .u8 0] := h4.set_ 5 (.int .u8 (r5.toNat : Int))
  have h6 : Blk (((((((w.setCell ⟨g, 0, none⟩ (.int .u8 (r0.toNat : Int))).setCell ⟨g, 1, none⟩ (.int .u8 (r1.toNat : Int))).setCell ⟨g, 2, none⟩ (.int .u8 (r2.toNat : Int))).setCell ⟨g, 3, none⟩ (.int .u8 (r3.toNat : Int))).setCell ⟨g, 4, none⟩ (.int .u8 (r4.toNat : Int))).setCell ⟨g, 5, none⟩ (.int .u8 (r5.toNat : Int))).setCell ⟨g, 6, none⟩ (.int .u8 (r6.toNat : Int))) g t #[.int .u8 (r0.toNat : Int), .int .u8 (r1.toNat : Int), .int .u8 (r2.toNat : Int), .int .u8 (r3.toNat : Int), .int .u8 (r4.toNat : Int), .int .u8 (r5.toNat : Int), .int .u8 (r6.toNat : Int), .int .u8 0, .int .u8 0, .int .u8 0, .int .u8 0, .int .u8 0, .int .u8 0, .int .u8 0, .int .u8 0, .int .u8 0] := h5.set_ 6 (.int .u8 (r6.toNat : Int))
  have h7 : Blk ((((((((w.setCell ⟨g, 0, none⟩ (.int .u8 (r0.toNat : Int))).setCell ⟨g, 1, none⟩ (.int .u8 (r1.toNat : Int))).setCell ⟨g, 2, none⟩ (.int .u8 (r2.toNat : Int))).setCell ⟨g, 3, none⟩ (.int .u8 (r3.toNat : Int))).setCell ⟨g, 4, none⟩ (.int .u8 (r4.toNat : Int))).setCell ⟨g, 5, none⟩ (.int .u8 (r5.toNat : Int))).setCell ⟨g, 6, none⟩ (.int .u8 (r6.toNat : Int))).setCell ⟨g, 7, none⟩ (.int .u8 (r7.toNat : Int))) g t #[.int .u8 (r0.toNat : Int), .int .u8 (r1.toNat : Int), .int .u8 (r2.toNat : Int), .int .u8 (r3.toNat : Int), .int .u8 (r4.toNat : Int), .int .u8 (r5.toNat : Int), .int .u8 (r6.toNat : Int), .int .u8 (r7.toNat : Int), .int .u8 0, .int .u8 0, .int .u8 0, .int .u8 0, .int .u8 0, .int .u8 0, .int .u8 0, .int .u8 0] := h6.set_ 7 (.int .u8 (r7.toNat : Int))
  have h8 : Blk (((((((((w.setCell ⟨g, 0, none⟩ (.int .u8 (r0.toNat : Int))).setCell ⟨g, 1, none⟩ (.int .u8 (r1.toNat : Int))).setCell ⟨g, 2, none⟩ (.int .u8 (r2.toNat : Int))).setCell ⟨g, 3, none⟩ (.int .u8 (r3.toNat : Int))).setCell ⟨g, 4, none⟩ (.int .u8 (r4.toNat : Int))).setCell ⟨g, 5, none⟩ (.int .u8 (r5.toNat : Int))).setCell ⟨g, 6, none⟩ (.int .u8 (r6.toNat : Int))).setCell ⟨g, 7, none⟩ (.int .u8 (r7.toNat : Int))).setCell ⟨g, 8, none⟩ (.int .u8 (r8.toNat : Int))) g t #[.int .u8 (r0.toNat : Int), .int .u8 (r1.toNat : Int), .int .u8 (r2.toNat : Int), .int .u8 (r3.toNat : Int), .int .u8 (r4.toNat : Int), .int .u8 (r5.toNat : Int), .int .u8 (r6.toNat : Int), .int .u8 (r7.toNat : Int), .int .u8 (r8.toNat : Int), .int .u8 0, .int .u8 0, .int .u8 0, .int .u8 0, .int .u8 0, .int .u8 0, .int .u8 0] := h7.set_ 8 (.int .u8 (r8.toNat : Int))
  have h9 : Blk ((((((((((w.setCell ⟨g, 0, none⟩ (.int .u8 (r0.toNat : Int))).setCell ⟨g, 1, none⟩ (.int .u8 (r1.toNat : Int))).setCell ⟨g, 2, none⟩ (.int .u8 (r2.toNat : Int))).setCell ⟨g, 3, none⟩ (.int .u8 (r3.toNat : Int))).setCell ⟨g, 4, none⟩ (.int .u8 (r4.toNat : Int))).setCell ⟨g, 5, none⟩ (.int .u8 (r5.toNat : Int))).setCell ⟨g, 6, none⟩ (.int .u8 (r6.toNat : Int))).setCell ⟨g, 7, none⟩ (.int .u8 (r7.toNat : Int))).setCell ⟨g, 8, none⟩ (.int .u8 (r8.toNat : Int))).setCell ⟨g, 9, none⟩ (.int .u8 (r9.toNat : Int))) g t #[.int .u8 (r0.toNat : Int), .int .u8 (r1.toNat : Int), .int .u8 (r2.toNat : Int), .int .u8 (r3.toNat : Int), .int .u8 (r4.toNat : Int), .int .u8 (r5.toNat : Int), .int .u8 (r6.toNat : Int), .int .u8 (r7.toNat : Int), .int .u8 (r8.toNat : Int), .int .u8 (r9.toNat : Int), .int .u8 0, .int .u8 0, .int .u8 0, .int .u8 0, .int .u8 0, .int .u8 0] := h8.set_ 9 (.int .u8 (r9.toNat : Int))
  have h10 : Blk (((((((((((w.setCell ⟨g, 0, none⟩ (.int .u8 (r0.toNat : Int))).setCell ⟨g, 1, none⟩ (.int .u8 (r1.toNat : Int))).setCell ⟨g, 2, none⟩ (.int .u8 (r2.toNat : Int))).setCell ⟨g, 3, none⟩ (.int .u8 (r3.toNat : Int))).setCell ⟨g, 4, none⟩ (.int .u8 (r4.toNat : Int))).setCell ⟨g, 5, none⟩ (.int .u8 (r5.toNat : Int))).setCell ⟨g, 6, none⟩ (.int .u8 (r6.toNat : Int))).setCell ⟨g, 7, none⟩ (.int .u8 (r7.toNat : Int))).setCell ⟨g, 8, none⟩ (.int .u8 (r8.toNat : Int))).setCell ⟨g, 9, none⟩ (.int .u8 (r9.toNat : Int))).setCell ⟨g, 10, none⟩ (.int .u8 (r10.toNat : Int))) g t #[.int .u8 (r0.toNat : Int), .int .u8 (r1.toNat : Int), .int .u8 (r2.toNat : Int), .int .u8 (r3.toNat : Int), .int .u8 (r4.toNat : Int), .int .u8 (r5.toNat : Int), .int .u8 (r6.toNat : Int), .int .u8 (r7.toNat : Int), .int .u8 (r8.toNat : Int), .int .u8 (r9.toNat : Int), .int .u8 (r10.toNat : Int), .int .u8 0, .int .u8 0, .int .u8 0, .int .u8 0, .int .u8 0] := h9.set_ 10 (.int .u8 (r10.toNat : Int))
  have h11 : Blk ((((((((((((w.setCell ⟨g, 0, none⟩ (.int .u8 (r0.toNat : Int))).setCell ⟨g, 1, none⟩ (.int .u8 (r1.toNat : Int))).setCell ⟨g, 2, none⟩ (.int .u8 (r2.toNat : Int))).setCell ⟨g, 3, none⟩ (.int .u8 (r3.toNat : Int))).setCell ⟨g, 4, none⟩ (.int .u8 (r4.toNat : Int))).setCell ⟨g, 5, none⟩ (.int .u8 (r5.toNat : Int))).setCell ⟨g, 6, none⟩ (.int .u8 (r6.toNat : Int))).setCell ⟨g, 7, none⟩ (.int .u8 (r7.toNat : Int))).setCell ⟨g, 8, none⟩ (.int .u8 (r8.toNat : Int))).setCell ⟨g, 9, none⟩ (.int .u8 (r9.toNat : Int))).setCell ⟨g, 10, none⟩ (.int .u8 (r10.toNat : Int))).setCell ⟨g, 11, none⟩ (.int .u8 (r11.toNat : Int))) g t #[.int .u8 (r0.toNat : Int), .int .u8 (r1.toNat : Int), .int .u8 (r2.toNat : Int), .int .u8 (r3.toNat : Int), .int .u8 (r4.toNat : Int), .int .u8 (r5.toNat : Int), .int .u8 (r6.toNat : Int), .int .u8 (r7.toNat : Int), .int .u8 (r8.toNat : Int), .int .u8 (r9.toNat : Int), .int .u8 (r10.toNat : Int), .int .u8 (r11.toNat : Int), .int .u8 0, .int .u8 0, .int .u8 0, .int .u8 0] := h10.set_ 11 (.int .u8 (r11.toNat : Int))
  have h12 : Blk (((((((((((((w.setCell ⟨g, 0, none⟩ (.int .u8 (r0.toNat : Int))).setCell ⟨g, 1, none⟩ (.int .u8 (r1.toNat : Int))).setCell ⟨g, 2, none⟩ (.int .u8 (r2.toNat : Int))).setCell ⟨g, 3, none⟩ (.int .u8 (r3.toNat : Int))).setCell ⟨g, 4, none⟩ (.int .u8 (r4.toNat : Int))).setCell ⟨g, 5, none⟩ (.int .u8 (r5.toNat : Int))).setCell ⟨g, 6, none⟩ (.int .u8 (r6.toNat : Int))).setCell ⟨g, 7, none⟩ (.int .u8 (r7.toNat : Int))).setCell ⟨g, 8, none⟩ (.int .u8 (r8.toNat : Int))).setCell ⟨g, 9, none⟩ (.int .u8 (r9.toNat : Int))).setCell ⟨g, 10, none⟩ (.int .u8 (r10.toNat : Int))).setCell ⟨g, 11, none⟩ (.int .u8 (r11.toNat : Int))).setCell ⟨g, 12, none⟩ (.int .u8 (r12.toNat : Int))) g t #[.int .u8 (r0.toNat : Int), .int .u8 (r1.toNat : Int), .int .u8 (r2.toNat : Int), .int .u8 (r3.toNat : Int), .int .u8 (r4.toNat : Int), .int .u8 (r5.toNat : Int), .int .u8 (r6.toNat : Int), .int .u8 (r7.toNat : Int), .int .u8 (r8.toNat : Int), .int .u8 (r9.toNat : Int), .int .u8 (r10.toNat : Int), .int .u8 (r11.toNat : Int), .int .u8 (r12.toNat : Int), .int .u8 0, .int .u8 0, .int .u8 0] := h11.set_ 12 (.int .u8 (r12.toNat : Int))
  have h13 : Blk ((((((((((((((w.setCell ⟨g, 0, none⟩ (.int .u8 (r0.toNat : Int))).setCell ⟨g, 1, none⟩ (.int .u8 (r1.toNat : Int))).setCell ⟨g, 2, none⟩ (.int .u8 (r2.toNat : Int))).setCell ⟨g, 3, none⟩ (.int .u8 (r3.toNat : Int))).setCell ⟨g, 4, none⟩ (.int .u8 (r4.toNat : Int))).setCell ⟨g, 5, none⟩ (.int .u8 (r5.toNat : Int))).setCell ⟨g, 6, none⟩ (.int .u8 (r6.toNat : Int))).setCell ⟨g, 7, none⟩ (.int .u8 (r7.toNat : Int))).setCell ⟨g, 8, none⟩ (.int .u8 (r8.toNat : Int))).setCell ⟨g, 9, none⟩ (.int .u8 (r9.toNat : Int))).setCell ⟨g, 10, none⟩ (.int .u8 (r10.toNat : Int))).setCell ⟨g, 11, none⟩ (.int .u8 (r11.toNat : Int))).setCell ⟨g, 12, none⟩ (.int .u8 (r12.toNat : Int))).setCell ⟨g, 13, none⟩ (.int .u8 (r13.toNat : Int))) g t #[.int .u8 (r0.toNat : Int), .int .u8 (r1.toNat : Int), .int .u8 (r2.toNat : Int), .int .u8 (r3.toNat : Int), .int .u8 (r4.toNat : Int), .int .u8 (r5.toNat : Int), .int .u8 (r6.toNat : Int), .int .u8 (r7.toNat : Int), .int .u8 (r8.toNat : Int), .int .u8 (r9.toNat : Int), .int .u8 (r10.toNat : Int), .int .u8 (r11.toNat : Int), .int .u8 (r12.toNat : Int), .int .u8 (r13.toNat : Int), .int .u8 0, .int .u8 0] := h12.set_ 13 (.int .u8 (r13.toNat : Int))
  have h14 : Blk (((((((((((((((w.setCell ⟨g, 0, none⟩ (.int .u8 (r0.toNat : Int))).setCell ⟨g, 1, none⟩ (.int .u8 (r1.toNat : Int))).setCell ⟨g, 2, none⟩ (.int .u8 (r2.toNat : Int))).setCell ⟨g, 3, none⟩ (.int .u8 (r3.toNat : Int))).setCell ⟨g, 4, none⟩ (.int .u8 (r4.toNat : Int))).setCell ⟨g, 5, none⟩ (.int .u8 (r5.toNat : Int))).setCell ⟨g, 6, none⟩ (.int .u8 (r6.toNat : Int))).setCell ⟨g, 7, none⟩ (.int .u8 (r7.toNat : Int))).setCell ⟨g, 8, none⟩ (.int .u8 (r8.toNat : Int))).setCell ⟨g, 9, none⟩ (.int .u8 (r9.toNat : Int))).setCell ⟨g, 10, none⟩ (.int .u8 (r10.toNat : Int))).setCell ⟨g, 11, none⟩ (.int .u8 (r11.toNat : Int))).setCell ⟨g, 12, none⟩ (.int .u8 (r12.toNat : Int))).setCell ⟨g, 13, none⟩ (.int .u8 (r13.toNat : Int))).setCell ⟨g, 14, none⟩ (.int .u8 (r14.toNat : Int))) g t #[.int .u8 (r0.toNat : Int), .int .u8 (r1.toNat : Int), .int .u8 (r2.toNat : Int), .int .u8 (r3.toNat : Int), .int .u8 (r4.toNat : Int), .int .u8 (r5.toNat : Int), .int .u8 (r6.toNat : Int), .int .u8 (r7.toNat : Int), .int .u8 (r8.toNat : Int), .int .u8 (r9.toNat : Int), .int .u8 (r10.toNat : Int), .int .u8 (r11.toNat : Int), .int .u8 (r12.toNat : Int), .int .u8 (r13.toNat : Int), .int .u8 (r14.toNat : Int), .int .u8 0] := h13.set_ 14 (.int .u8 (r14.toNat : Int))
  have h15 : Blk ((((((((((((((((w.setCell ⟨g, 0, none⟩ (.int .u8 (r0.toNat : Int))).setCell ⟨g, 1, none⟩ (.int .u8 (r1.toNat : Int))).setCell ⟨g, 2, none⟩ (.int .u8 (r2.toNat : Int))).setCell ⟨g, 3, none⟩ (.int .u8 (r3.toNat : Int))).setCell ⟨g, 4, none⟩ (.int .u8 (r4.toNat : Int))).setCell ⟨g, 5, none⟩ (.int .u8 (r5.toNat : Int))).setCell ⟨g, 6, none⟩ (.int .u8 (r6.toNat : Int))).setCell ⟨g, 7, none⟩ (.int .u8 (r7.toNat : Int))).setCell ⟨g, 8, none⟩ (.int .u8 (r8.toNat : Int))).setCell ⟨g, 9, none⟩ (.int .u8 (r9.toNat : Int))).setCell ⟨g, 10, none⟩ (.int .u8 (r10.toNat : Int))).setCell ⟨g, 11, none⟩ (.int .u8 (r11.toNat : Int))).setCell ⟨g, 12, none⟩ (.int .u8 (r12.toNat : Int))).setCell ⟨g, 13, none⟩ (.int .u8 (r13.toNat : Int))).setCell ⟨g, 14, none⟩ (.int .u8 (r14.toNat : Int))).setCell ⟨g, 15, none⟩ (.int .u8 (r15.toNat : Int))) g t #[.int .u8 (r0.toNat : Int), .int .u8 (r1.toNat : Int), .int .u8 (r2.toNat : Int), .int .u8 (r3.toNat : Int), .int .u8 (r4.toNat : Int), .int .u8 (r5.toNat : Int), .int .u8 (r6.toNat : Int), .int .u8 (r7.toNat : Int), .int .u8 (r8.toNat : Int), .int .u8 (r9.toNat : Int), .int .u8 (r10.toNat : Int), .int .u8 (r11.toNat : Int), .int .u8 (r12.toNat : Int), .int .u8 (r13.toNat : Int), .int .u8 (r14.toNat : Int), .int .u8 (r15.toNat : Int)] := h14.set_ 15 (.int .u8 (r15.toNat : Int))
  exact h15
theorem kept16 {a w : World} {g : Nat} (h : Kept a w NoB) (hg : a.heap.size ≤ g) (r0 r1 r2 r3 r4 r5 r6 r7 r8 r9 r10 r11 r12 r13 r14 r15 : Value) : Kept a ((((((((((((((((w.setCell ⟨g, 0, none⟩ r0).setCell ⟨g, 1, none⟩ r1).setCell ⟨g, 2, none⟩ r2).setCell ⟨g, 3, none⟩ r3).setCell ⟨g, 4, none⟩ r4).setCell ⟨g, 5, none⟩ r5).setCell ⟨g, 6, none⟩ r6).setCell ⟨g, 7, none⟩ r7).setCell ⟨g, 8, none⟩ r8).setCell ⟨g, 9, none⟩ r9).setCell ⟨g, 10, none⟩ r10).setCell ⟨g, 11, none⟩ r11).setCell ⟨g, 12, none⟩ r12).setCell ⟨g, 13, none⟩ r13).setCell ⟨g, 14, none⟩ r14).setCell ⟨g, 15, none⟩ r15) NoB := by
  have h0 := h.setCell (p := ⟨g, 0, none⟩) (.inr hg) r0
  have h1 := h0.setCell (p := ⟨g, 1, none⟩) (.inr hg) r1
  have h2 := h1.setCell (p := ⟨g, 2, none⟩) (.inr hg) r2
  have h3 := h2.setCell (p := ⟨g, 3, none⟩) (.inr hg) r3
  have h4 := h3.setCell (p := ⟨g, 4, none⟩) (.inr hg) r4
  have h5 := h4.setCell (p := ⟨g, 5, none⟩) (.inr hg) r5
  have h6 := h5.setCell (p := ⟨g, 6, none⟩) (.inr hg) r6
  have h7 := h6.setCell (p := ⟨g, 7, none⟩) (.inr hg) r7
  have h8 := h7.setCell (p := ⟨g, 8, none⟩) (.inr hg) r8
  have h9 := h8.setCell (p := ⟨g, 9, none⟩) (.inr hg) r9
  have h10 := h9.setCell (p := ⟨g, 10, none⟩) (.inr hg) r10
  have h11 := h10.setCell (p := ⟨g, 11, none⟩) (.inr hg) r11
  have h12 := h11.setCell (p := ⟨g, 12, none⟩) (.inr hg) r12
  have h13 := h12.setCell (p := ⟨g, 13, none⟩) (.inr hg) r13
  have h14 := h13.setCell (p := ⟨g, 14, none⟩) (.inr hg) r14
  have h15 := h14.setCell (p := ⟨g, 15, none⟩) (.inr hg) r15
  exact h15
def SuS1 (w : World) (S : Nat → Prop) (g2 g3 : Nat) (L : List UInt8) (z : Array Value) (gk : Nat) (v0 : Value) (wr : World) : Prop :=
  ∃ (k : Nat) (A : Option Addr) (c : Nat), 64 * k ≤ L.length ∧ gk = L.length / 64 - k ∧ v0 = .slice A (L.length - 64 * k) c ∧ L.length - 64 * k ≤ c ∧ c ≤ 9223372036854775807 ∧ Reads wr S A (L.length - 64 * k) (b8s (L.drop (64 * k))) ∧ Blk wr g3 65 (cS (blkP initS L k)) ∧ Blk wr g2 48 z ∧ Kept w wr NoB
def SuS2 (w : World) (g2 g3 g5 : Nat) (L : List UInt8) (z : Array Value) (s : S4) (gk : Nat) (v34 : Value) (wr : World) : Prop :=
  ∃ i, i ≤ 8 ∧ gk = 8 - i ∧ v34 = .int .i64 (i : Int) ∧ Blk wr g5 68 (b8s (lastI L i)).toArray ∧ Blk wr g3 65 (cS s) ∧ Blk wr g2 48 z ∧ Kept w wr NoB
def SuS3 (w : World) (g2 g3 g5 : Nat) (X : List UInt8) (z : Array Value) (s : S4) (e : Nat) (gk : Nat) (v9 : Value) (wr : World) : Prop :=
  ∃ t, t ≤ e ∧ gk = e - t ∧ v9 = .int .i64 ((64 * t : Nat) : Int) ∧ Blk wr g5 68 (b8s X).toArray ∧ Blk wr g3 65 (cS (blkP s X t)) ∧ Blk wr g2 48 z ∧ Kept w wr NoB
/-- The cells of what comes out, i bytes of it. -/
def outI (s : S4) (i : Nat) : Array Value := ((List.range 16).map fun j => Value.int .u8 (if j < i then ((outB s j).toNat : Int) else 0)).toArray
theorem outI_set (s : S4) (i : Nat) (hi : i < 16) : (outI s i).setIfInBounds i (.int .u8 ((outB s i).toNat : Int)) = outI s (i + 1) := by
  unfold outI
  rw [List.setIfInBounds_toArray]
  congr 1
  apply List.ext_getElem?
  intro g
  rw [List.getElem?_set]
  by_cases hg : g < 16
  · simp only [List.length_map, List.length_range, List.getElem?_map, List.getElem?_range hg, Option.map_some]
    by_cases he : i = g
    · subst he
      rw [if_pos rfl, if_pos (by omega), if_pos (by omega)]
    · rw [if_neg he]
      by_cases h1 : g < i
      · rw [if_pos h1, if_pos (by omega)]
      · rw [if_neg h1, if_neg (by omega)]
  · rw [if_neg (by omega), List.getElem?_eq_none (by simp; omega), List.getElem?_eq_none (by simp; omega)]
def SuS4 (w : World) (g2 g3 g8 : Nat) (z : Array Value) (s : S4) (gk : Nat) (v57 : Value) (wr : World) : Prop :=
  ∃ i, i ≤ 16 ∧ gk = 16 - i ∧ v57 = .int .i64 (i : Int) ∧ Blk wr g8 48 (outI s i) ∧ Blk wr g3 65 (cS s) ∧ Blk wr g2 48 z ∧ Kept w wr NoB
theorem cS_at (s : S4) (g : Nat) (hg : g < 4) : (cS s)[g]? = some (.int .u32 (U (wordN s g))) := by
  rcases g with _ | _ | _ | _ | g
  · rfl
  · rfl
  · rfl
  · rfl
  · omega
/-- The value of sixteen bytes. -/
def v16 (l : List UInt8) : Value := .agg (b8s l).toArray
theorem outI_all (s : S4) : outI s 16 = (b8s (outL s)).toArray := by
  unfold outI b8s outL B8
  rw [List.map_map]
  congr 1
set_option maxHeartbeats 16000000 in
set_option maxRecDepth 100000 in
theorem sum_calls (w : World) (S : Nat → Prop) (A : Option Addr) (n c : Nat) (L : List UInt8) (hR : Reads w S A n (b8s L)) (hnc : n ≤ c) (hnb : n ≤ 1099511627776) (hcb : c ≤ 9223372036854775807) (hSb : ∀ k, S k → k < w.heap.size) (hC : SinC w) :
    Calls Tryd.prog 31 #[.slice A n c] w fun en w' => en = .returned (v16 (md5P L)) ∧ Kept w w' NoB := by
  have hLn : L.length = n := by have := hR.1; rwa [b8s_length] at this
  obtain ⟨RES, hRES⟩ : ∃ r, md5P L = r := ⟨_, rfl⟩
  rw [hRES]
  have HRES := Lib.hid hRES
  have HR := Lib.hid hR
  have HC := Lib.hid hC
  have HLN := Lib.hid hLn
  have HSB := Lib.hid hSb
  clear hR hC hLn hRES hSb
  go_enter Tryd.func31, Tryd.ntmps31
  go_wp2_with fail
  have hk : Kept w ((w.alloc (.cells #[.int .u8 0, .int .u8 0, .int .u8 0, .int .u8 0, .int .u8 0, .int .u8 0, .int .u8 0, .int .u8 0, .int .u8 0, .int .u8 0, .int .u8 0, .int .u8 0, .int .u8 0, .int .u8 0, .int .u8 0, .int .u8 0] 48)).alloc (.cells #[.int .u32 1732584193, .int .u32 4023233417, .int .u32 2562383102, .int .u32 271733878] 65)) NoB := ((Kept.refl w NoB).alloc _).alloc _
  have h2 : Blk ((w.alloc (.cells #[.int .u8 0, .int .u8 0, .int .u8 0, .int .u8 0, .int .u8 0, .int .u8 0, .int .u8 0, .int .u8 0, .int .u8 0, .int .u8 0, .int .u8 0, .int .u8 0, .int .u8 0, .int .u8 0, .int .u8 0, .int .u8 0] 48)).alloc (.cells #[.int .u32 1732584193, .int .u32 4023233417, .int .u32 2562383102, .int .u32 271733878] 65)) w.heap.size 48 #[.int .u8 0, .int .u8 0, .int .u8 0, .int .u8 0, .int .u8 0, .int .u8 0, .int .u8 0, .int .u8 0, .int .u8 0, .int .u8 0, .int .u8 0, .int .u8 0, .int .u8 0, .int .u8 0, .int .u8 0, .int .u8 0] := (Blk.new w _ _).alloc _
  have h3 : Blk ((w.alloc (.cells #[.int .u8 0, .int .u8 0, .int .u8 0, .int .u8 0, .int .u8 0, .int .u8 0, .int .u8 0, .int .u8 0, .int .u8 0, .int .u8 0, .int .u8 0, .int .u8 0, .int .u8 0, .int .u8 0, .int .u8 0, .int .u8 0] 48)).alloc (.cells #[.int .u32 1732584193, .int .u32 4023233417, .int .u32 2562383102, .int .u32 271733878] 65)) (w.heap.size + 1) 65 #[.int .u32 1732584193, .int .u32 4023233417, .int .u32 2562383102, .int .u32 271733878] := by
    have := Blk.new (w.alloc (.cells #[.int .u8 0, .int .u8 0, .int .u8 0, .int .u8 0, .int .u8 0, .int .u8 0, .int .u8 0, .int .u8 0, .int .u8 0, .int .u8 0, .int .u8 0, .int .u8 0, .int .u8 0, .int .u8 0, .int .u8 0, .int .u8 0] 48)) 65 #[.int .u32 1732584193, .int .u32 4023233417, .int .u32 2562383102, .int .u32 271733878]
    simpa using this
  generalize (w.alloc (.cells #[.int .u8 0, .int .u8 0, .int .u8 0, .int .u8 0, .int .u8 0, .int .u8 0, .int .u8 0, .int .u8 0, .int .u8 0, .int .u8 0, .int .u8 0, .int .u8 0, .int .u8 0, .int .u8 0, .int .u8 0, .int .u8 0] 48)).alloc (.cells #[.int .u32 1732584193, .int .u32 4023233417, .int .u32 2562383102, .int .u32 271733878] 65) = W at *
  have hini : (#[.int .u32 1732584193, .int .u32 4023233417, .int .u32 2562383102, .int .u32 271733878] : Array Value) = cS (blkP initS L 0) := rfl
  rw [hini] at h3
  obtain ⟨g3, hg3⟩ : ∃ g, w.heap.size + 1 = g := ⟨_, rfl⟩
  have hg3l : w.heap.size ≤ g3 := by omega
  have hg23 : w.heap.size ≠ g3 := by omega
  rw [hg3] at h3 ⊢
  obtain ⟨g2, hg2⟩ : ∃ g, w.heap.size = g := ⟨_, rfl⟩
  rw [hg2] at h2 hg3l hg23 ⊢
  have HG2 := Lib.hid hg2
  have HK := Lib.hid hk
  have HH2 := Lib.hid h2
  have HH3 := Lib.hid h3
  obtain ⟨z, hz⟩ : ∃ z, (#[.int .u8 0, .int .u8 0, .int .u8 0, .int .u8 0, .int .u8 0, .int .u8 0, .int .u8 0, .int .u8 0, .int .u8 0, .int .u8 0, .int .u8 0, .int .u8 0, .int .u8 0, .int .u8 0, .int .u8 0, .int .u8 0] : Array Value) = z := ⟨_, rfl⟩
  rw [hz] at HH2
  have HZ := Lib.hid hz
  clear hk h2 h3 hini hg3 hg2 hz
  go_loopg [0] (L.length / 64) (fun gk v0 wr => SuS1 w S g2 g3 L z gk v0 wr)
  case atStart => exact ⟨0, A, c, by omega, rfl, by rw [Nat.mul_zero, Nat.sub_zero, HLN.out], by rw [HLN.out]; omega, by omega, by rw [Nat.mul_zero, Nat.sub_zero, HLN.out, List.drop_zero]; exact HR.out.kept0 HK.out, HH3.out, HH2.out, HK.out⟩
  case round =>
    obtain ⟨k, A', c', hk64, hgk, rfl, hlc, hcc, hrd, h3, h2, hk⟩ := hrel
    have HG := Lib.hid hgk
    have HRD := Lib.hid hrd
    have H3 := Lib.hid h3
    have H2 := Lib.hid h2
    have HKP := Lib.hid hk
    obtain ⟨m, hm⟩ : ∃ m, L.length - 64 * k = m := ⟨_, rfl⟩
    rw [hm] at hlc HRD ⊢
    have HM := Lib.hid hm
    clear hgk hrd h3 h2 hk hm
    rcases Nat.lt_or_ge m 64 with hlt | hge
    · have hkL : k = L.length / 64 := by have := HM.out; omega
      have hmL : m = L.length % 64 := by have := HM.out; omega
      have t64 : ¬ (64 : Int) ≤ (m : Int) := by omega
      have HKL := Lib.hid hkL
      have HML := Lib.hid hmL
      clear hkL hmL
      go_upto_region 7 with (fail)
      have HK5 := Lib.hid (HKP.out.alloc (.cells Tryd.zeroCells68 68))
      have H25 := Lib.hid (H2.out.alloc (.cells Tryd.zeroCells68 68))
      have H35 := Lib.hid (H3.out.alloc (.cells Tryd.zeroCells68 68))
      have HR5 := Lib.hid (HRD.out.alloc (.cells Tryd.zeroCells68 68))
      have hb55 := Blk.new wr 68 Tryd.zeroCells68
      have h25l : g2 < wr.heap.size := H2.out.lt
      have h35l : g3 < wr.heap.size := H3.out.lt
      have h5w : w.heap.size ≤ wr.heap.size := HKP.out.size
      generalize wr.alloc (.cells Tryd.zeroCells68 68) = W5 at *
      rw [ez128] at hb55
      have H55 := Lib.hid hb55
      clear hb55
      obtain ⟨g5, hg5⟩ : ∃ g, wr.heap.size = g := ⟨_, rfl⟩
      rw [hg5] at H55 h25l h35l h5w ⊢
      clear hg5
      obtain ⟨r, hr⟩ : ∃ r, L.drop (64 * k) = r := ⟨_, rfl⟩
      have HRr := Lib.hid hr
      rw [hr] at HR5
      have hrl : (b8s r).length = Nat.min m 128 := by rw [HR5.out.1]; exact (Nat.min_eq_left (by omega)).symm
      have hrm : r.length = m := by have := HR5.out.1; rwa [b8s_length] at this
      have hpos : 0 < (b8s r).length → (some (⟨g5, 0, none⟩ : Addr)) = some ⟨g5, 0, none⟩ ∧ ∃ ad, A' = some ad ∧ ∀ j v, (b8s r)[j]? = some v → W5.cell? (ad.add j) = some v := fun hp => by
        rw [HR5.out.1] at hp
        obtain ⟨ad, e, _, _, hc⟩ := HR5.out.2 hp
        exact ⟨rfl, ad, e, hc⟩
      have hone : ∀ v ∈ b8s r, v.oneCell' = true := fun v hv => by
        obtain ⟨b, _, rfl⟩ := List.mem_map.1 hv
        rfl
      have HR1 := Lib.hid hrl
      have HR2 := Lib.hid hrm
      have HP := Lib.hid hpos
      have HO := Lib.hid hone
      clear hr hrl hrm hpos hone
      obtain ⟨cur, hcur⟩ : ∃ cur, b8s (List.replicate 128 0) = cur := ⟨_, rfl⟩
      have hcl : cur.length = 128 := by rw [← hcur, b8s_length, List.length_replicate]
      have hc5 : W5.heap[g5]? = some (.cells cur.toArray 68 (0, 0)) := by rw [← hcur]; exact H55.out
      have hsp : splice cur 0 (b8s r) = b8s (r ++ List.replicate (128 - m) 0) := by
        unfold splice
        rw [← hcur, b8s_append, List.take_zero, List.nil_append, Nat.zero_add, b8s_length, HR2.out, b8s_drop, List.drop_replicate]
      have HCU := Lib.hid hc5
      have HSP := Lib.hid hsp
      have HFI : Hid (0 + (b8s r).length ≤ cur.length) := Lib.hid (by rw [hcl, b8s_length, HR2.out]; omega)
      clear hcur hcl hc5 hsp
      have k1 := Lib.hid (show (Tryd.prog.info? 5).map (·.size) = some 1 by kernel_rfl)
      go_upto_region 8 with (refine wpList_copy_splice rfl _ _ 27 27 rfl 5 Tryd.underlying27 k1.out (some ⟨g5, 0, none⟩) A' 128 128 m c' rfl rfl g5 0 cur 68 HCU.out (b8s r) HR1.out HP.out HFI.out HO.out g5 W5 (Below.refl _ _) (Nat.le_refl _) ?_; intro w6 hw6 hb6)
      rw [HSP.out] at hw6
      have HW6 : Hid (Blk w6 g5 68 (b8s (r ++ List.replicate (128 - m) 0)).toArray) := hw6
      have hk6 : Kept W5 w6 (fun b => g5 ≤ b) := ⟨hb6.os, hb6.tape, hb6.output, hb6.size, fun i hi hn => hb6.block i (by omega)⟩
      have hkw : Kept w w6 NoB := HK5.out.trans hk6 fun b hb => .inr (Nat.le_trans h5w hb)
      have HK6 := Lib.hid hkw
      have H26 := Lib.hid (H25.out.kept hk6 (by omega))
      have H36 := Lib.hid (H35.out.kept hk6 (by omega))
      clear hw6 hb6 hk6 hkw
      obtain ⟨X0, hX0⟩ : ∃ X, r ++ List.replicate (128 - m) 0 = X := ⟨_, rfl⟩
      have hx0 : X0.set m 128 = lastI L 0 := by rw [lastI, ← hX0, ← HRr.out, ← HML.out, ← HKL.out]
      have hx0l : X0.length = 128 := by rw [← hX0, List.length_append, List.length_replicate, HR2.out]; omega
      rw [hX0] at HW6
      have HX0 := Lib.hid hx0
      have hcm : w6.cell? ⟨g5, m, none⟩ = some (.int .u8 ((X0.getD m 0).toNat : Int)) := by
        rw [HW6.out.cell, List.getElem?_toArray, b8s_at X0 m (by omega), List.getD_eq_getElem?_getD, List.getElem?_eq_getElem (by omega : m < X0.length)]
        rfl
      have hfm := HW6.out.frozen m
      have hgl6 := HW6.out.lt
      have hset := HW6.out.set_ m (B8 128)
      rw [b8s_set, HX0.out] at hset
      have hset' : Blk (w6.setCell ⟨g5, m, none⟩ (.int .u8 128)) g5 68 (b8s (lastI L 0)).toArray := hset
      have HST := Lib.hid hset'
      have HRL := Lib.hid (HR2.out)
      have tm : (m : Int) < 128 := by omega
      have tm0 : (0 : Int) ≤ (m : Int) := by omega
      have hmin : (b8s r).length = m := by rw [HR1.out]; exact Nat.min_eq_left (by omega)
      rw [hmin]
      have e5w : w.heap.size ≤ g5 := h5w
      have e25 : g2 ≠ g5 := by omega
      have e35 : g3 ≠ g5 := by omega
      have H27 := Lib.hid (H26.out.far (p := ⟨g5, m, none⟩) e25 (.int .u8 128))
      have H37 := Lib.hid (H36.out.far (p := ⟨g5, m, none⟩) e35 (.int .u8 128))
      have HK7 := Lib.hid (HK6.out.setCell (p := ⟨g5, m, none⟩) (.inr e5w) (.int .u8 128))
      clear hX0 hx0 hx0l hset hset' h25l h35l h5w HCU HSP HFI HP HO HR1 HR2 HRr HR5 H25 H35 H55 HK5 k1 hmin
      go_upto_region 9 with (fail)
      generalize w6.setCell ⟨g5, m, none⟩ (.int .u8 128) = W7 at *
      clear hcm hfm hgl6 HW6 HK6 H26 H36
      obtain ⟨s, hs⟩ : ∃ s, blkP initS L k = s := ⟨_, rfl⟩
      rw [hs] at H37
      have hsr : RES = outL (blkP s (lastI L 8) (endN n / 64)) := by rw [← HRES.out, md5P, sumP, ← HKL.out, hs, HLN.out]
      have HSR := Lib.hid hsr
      have HKS := Lib.hid hs
      clear hsr hs
      cases Decidable.em (64 < m + 9)
      case inl he =>
        have hE : endN n = 128 := by unfold endN; rw [← HLN.out, ← HML.out, if_pos he]
        have HE := Lib.hid hE
        have te : (64 : Int) < (m : Int) + 1 + 8 := by omega
        clear hE he
        go_wp2_with fail
        go_loopg [8, 34] 8 (fun gk _ v34 wr => SuS2 w g2 g3 g5 L z s gk v34 wr)
        case atStart => exact ⟨0, Nat.zero_le _, rfl, rfl, HST.out, H37.out, H27.out, HK7.out⟩
        case round =>
          obtain ⟨i, hi, hgk, rfl, h5, h3, h2, hk⟩ := hrel
          have HG := Lib.hid hgk
          have H5 := Lib.hid h5
          have H3 := Lib.hid h3
          have H2 := Lib.hid h2
          have HK := Lib.hid hk
          clear hgk h5 h3 h2 hk
          rcases Nat.lt_or_ge i 8 with hlt8 | hge8
          · have hXl := lastI_len L i
            have hnx : lastI L (i + 1) = (lastI L i).set (120 + i) (lenB n i) := by rw [lastI, HLN.out, HE.out]
            obtain ⟨X, hX⟩ : ∃ X, lastI L i = X := ⟨_, rfl⟩
            rw [hX] at hXl hnx H5
            have hc : wr.cell? ⟨g5, 120 + i, none⟩ = some (.int .u8 ((X.getD (120 + i) 0).toNat : Int)) := by
              rw [H5.out.cell, List.getElem?_toArray, b8s_at X (120 + i) (by omega), List.getD_eq_getElem?_getD, List.getElem?_eq_getElem (by omega : 120 + i < X.length)]
              rfl
            have hf := H5.out.frozen (120 + i)
            have hgl := H5.out.lt
            have hset := H5.out.set_ (120 + i) (B8 (lenB n i))
            rw [b8s_set, ← hnx] at hset
            have hlb : (((n : Int) * 8) / 2 ^ (8 * i)) % 256 = ((lenB n i).toNat : Int) := by
              unfold lenB
              rw [UInt8.toNat_ofNat']
              simp
            obtain ⟨y, hy⟩ : ∃ y : Nat, (lenB n i).toNat = y := ⟨_, rfl⟩
            have hB : B8 (lenB n i) = .int .u8 (y : Int) := by unfold B8; rw [hy]
            rw [hB] at hset
            rw [hy] at hlb
            have HS := Lib.hid hset
            have ti : (i : Int) < 8 := by omega
            clear hX hXl hnx hset hy hB
            go_wp2_with fail
            go_roundg (8 - (i + 1))
            case measure => have := HG.out; omega
            case rel => exact ⟨i + 1, hlt8, rfl, by go_num, HS.out, H3.out.far e35 _, H2.out.far e25 _, HK.out.setCell (.inr e5w) _⟩
          · obtain rfl : i = 8 := by omega
            have tn : ¬ ((8 : Int) < 8) := by omega
            have hXl := lastI_len L 8
            obtain ⟨X, hX⟩ : ∃ X, lastI L 8 = X := ⟨_, rfl⟩
            rw [hX] at hXl H5
            have hsr := HSR.out
            rw [hX, HE.out] at hsr
            have HSR2 := Lib.hid hsr
            have HXL := Lib.hid hXl
            clear hX hXl hsr
            go_wp2_with fail
            go_loopg [9] 2 (fun gk v9 wr => SuS3 w g2 g3 g5 X z s 2 gk v9 wr)
            case atStart => exact ⟨0, Nat.zero_le _, rfl, rfl, H5.out, H3.out, H2.out, HK.out⟩
            case round =>
              obtain ⟨t, ht, hgk, rfl, h5, h3, h2, hk⟩ := hrel
              have HG3 := Lib.hid hgk
              have G5 := Lib.hid h5
              have G3 := Lib.hid h3
              have G2 := Lib.hid h2
              have GK := Lib.hid hk
              clear hgk h5 h3 h2 hk
              rcases (show t = 0 ∨ t = 1 ∨ t = 2 by omega) with rfl | rfl | rfl
              · rw [show (((64 * 0 : Nat)) : Int) = 0 from rfl]
                have hnx : blkP s X (0 + 1) = addP (mW ((X.drop 0).take 64)) (blkP s X 0) := rfl
                obtain ⟨x, hx⟩ : ∃ x, blkP s X 0 = x := ⟨_, rfl⟩
                rw [hx] at hnx G3
                obtain ⟨y, hy⟩ : ∃ y, addP (mW ((X.drop 0).take 64)) x = y := ⟨_, rfl⟩
                have hrd := blk_reads G5.out.drew HXL.out (k := 0) (by omega)
                have hst := add_calls wr.drew x (fun b => b = g5) (some ⟨g5, 0, none⟩) 128 128 (X.drop 0) hrd (by omega) (Nat.le_refl _) (by omega) (HC.out.kept0 GK.out.drew)
                rw [hy] at hst hnx
                obtain ⟨x1, x2, x3, x4⟩ := x
                obtain ⟨y1, y2, y3, y4⟩ := y
                unfold vS4 at hst
                simp only at hst
                have c0 : wr.cell? ⟨g3, 0, none⟩ = some (.int .u32 (U x1)) := G3.out.cell 0
                have c1 : wr.cell? ⟨g3, 1, none⟩ = some (.int .u32 (U x2)) := G3.out.cell 1
                have c2 : wr.cell? ⟨g3, 2, none⟩ = some (.int .u32 (U x3)) := G3.out.cell 2
                have c3 : wr.cell? ⟨g3, 3, none⟩ = some (.int .u32 (U x4)) := G3.out.cell 3
                have HS := Lib.hid hst
                have HNX := Lib.hid hnx
                clear hst hnx hrd hx hy
                go_wp2_with fail
                go_still_tail 3, (by kernel_rfl)
                change wpList _ _ _ _ _ wr.drew
                go_wp2_with fail
                refine HS.out.mono ?_
                rintro en wq ⟨rfl, hkq⟩
                have B3 := Lib.hid (G3.out.drew.kept0 hkq)
                have B2 := Lib.hid (G2.out.drew.kept0 hkq)
                have B5 := Lib.hid (G5.out.drew.kept0 hkq)
                have BK := Lib.hid (GK.out.drew.trans' hkq)
                have d0 : wq.cell? ⟨g3, 0, none⟩ = some (.int .u32 (U x1)) := B3.out.cell 0
                have f0 := B3.out.frozen 0
                have d1 : wq.cell? ⟨g3, 1, none⟩ = some (.int .u32 (U x2)) := B3.out.cell 1
                have f1 := B3.out.frozen 1
                have d2 : wq.cell? ⟨g3, 2, none⟩ = some (.int .u32 (U x3)) := B3.out.cell 2
                have f2 := B3.out.frozen 2
                have d3 : wq.cell? ⟨g3, 3, none⟩ = some (.int .u32 (U x4)) := B3.out.cell 3
                have f3 := B3.out.frozen 3
                have hgl := B3.out.lt
                clear hkq c0 c1 c2 c3
                go_wp2_with fail
                go_roundg (2 - (0 + 1))
                case measure => have := HG3.out; omega
                case rel =>
                  have e3 : w.heap.size ≤ g3 := by rw [HG2.out]; exact hg3l
                  exact ⟨0 + 1, by omega, rfl, rfl, far4 B5.out (Ne.symm e35) _ _ _ _, by rw [HNX.out]; exact blk4 B3.out _ _ _ _, far4 B2.out hg23 _ _ _ _, kept4 BK.out e3 _ _ _ _⟩
              · rw [show (((64 * 1 : Nat)) : Int) = 64 from rfl]
                have hnx : blkP s X (1 + 1) = addP (mW ((X.drop 64).take 64)) (blkP s X 1) := rfl
                obtain ⟨x, hx⟩ : ∃ x, blkP s X 1 = x := ⟨_, rfl⟩
                rw [hx] at hnx G3
                obtain ⟨y, hy⟩ : ∃ y, addP (mW ((X.drop 64).take 64)) x = y := ⟨_, rfl⟩
                have hrd := blk_reads G5.out.drew HXL.out (k := 64) (by omega)
                have hst := add_calls wr.drew x (fun b => b = g5) (some ⟨g5, 64, none⟩) 64 64 (X.drop 64) hrd (by omega) (Nat.le_refl _) (by omega) (HC.out.kept0 GK.out.drew)
                rw [hy] at hst hnx
                obtain ⟨x1, x2, x3, x4⟩ := x
                obtain ⟨y1, y2, y3, y4⟩ := y
                unfold vS4 at hst
                simp only at hst
                have c0 : wr.cell? ⟨g3, 0, none⟩ = some (.int .u32 (U x1)) := G3.out.cell 0
                have c1 : wr.cell? ⟨g3, 1, none⟩ = some (.int .u32 (U x2)) := G3.out.cell 1
                have c2 : wr.cell? ⟨g3, 2, none⟩ = some (.int .u32 (U x3)) := G3.out.cell 2
                have c3 : wr.cell? ⟨g3, 3, none⟩ = some (.int .u32 (U x4)) := G3.out.cell 3
                have HS := Lib.hid hst
                have HNX := Lib.hid hnx
                clear hst hnx hrd hx hy
                go_wp2_with fail
                go_still_tail 3, (by kernel_rfl)
                change wpList _ _ _ _ _ wr.drew
                go_wp2_with fail
                refine HS.out.mono ?_
                rintro en wq ⟨rfl, hkq⟩
                have B3 := Lib.hid (G3.out.drew.kept0 hkq)
                have B2 := Lib.hid (G2.out.drew.kept0 hkq)
                have B5 := Lib.hid (G5.out.drew.kept0 hkq)
                have BK := Lib.hid (GK.out.drew.trans' hkq)
                have d0 : wq.cell? ⟨g3, 0, none⟩ = some (.int .u32 (U x1)) := B3.out.cell 0
                have f0 := B3.out.frozen 0
                have d1 : wq.cell? ⟨g3, 1, none⟩ = some (.int .u32 (U x2)) := B3.out.cell 1
                have f1 := B3.out.frozen 1
                have d2 : wq.cell? ⟨g3, 2, none⟩ = some (.int .u32 (U x3)) := B3.out.cell 2
                have f2 := B3.out.frozen 2
                have d3 : wq.cell? ⟨g3, 3, none⟩ = some (.int .u32 (U x4)) := B3.out.cell 3
                have f3 := B3.out.frozen 3
                have hgl := B3.out.lt
                clear hkq c0 c1 c2 c3
                go_wp2_with fail
                go_roundg (2 - (1 + 1))
                case measure => have := HG3.out; omega
                case rel =>
                  have e3 : w.heap.size ≤ g3 := by rw [HG2.out]; exact hg3l
                  exact ⟨1 + 1, by omega, rfl, rfl, far4 B5.out (Ne.symm e35) _ _ _ _, by rw [HNX.out]; exact blk4 B3.out _ _ _ _, far4 B2.out hg23 _ _ _ _, kept4 BK.out e3 _ _ _ _⟩
              · rw [show (((64 * 2 : Nat)) : Int) = 128 from rfl]
                obtain ⟨x, hx⟩ : ∃ x, blkP s X 2 = x := ⟨_, rfl⟩
                have hres := HSR2.out
                rw [show 128 / 64 = 2 from rfl, hx] at hres
                rw [hx] at G3
                have HRS := Lib.hid hres
                clear hres hx
                go_wp2_with fail
                have HK8 := Lib.hid (GK.out.alloc (.cells #[.int .u8 0, .int .u8 0, .int .u8 0, .int .u8 0, .int .u8 0, .int .u8 0, .int .u8 0, .int .u8 0, .int .u8 0, .int .u8 0, .int .u8 0, .int .u8 0, .int .u8 0, .int .u8 0, .int .u8 0, .int .u8 0] 48))
                have H38 := Lib.hid (G3.out.alloc (.cells #[.int .u8 0, .int .u8 0, .int .u8 0, .int .u8 0, .int .u8 0, .int .u8 0, .int .u8 0, .int .u8 0, .int .u8 0, .int .u8 0, .int .u8 0, .int .u8 0, .int .u8 0, .int .u8 0, .int .u8 0, .int .u8 0] 48))
                have H28 := Lib.hid (G2.out.alloc (.cells #[.int .u8 0, .int .u8 0, .int .u8 0, .int .u8 0, .int .u8 0, .int .u8 0, .int .u8 0, .int .u8 0, .int .u8 0, .int .u8 0, .int .u8 0, .int .u8 0, .int .u8 0, .int .u8 0, .int .u8 0, .int .u8 0] 48))
                have H88 := Lib.hid (Blk.new wr 48 #[.int .u8 0, .int .u8 0, .int .u8 0, .int .u8 0, .int .u8 0, .int .u8 0, .int .u8 0, .int .u8 0, .int .u8 0, .int .u8 0, .int .u8 0, .int .u8 0, .int .u8 0, .int .u8 0, .int .u8 0, .int .u8 0])
                have h38 : g3 < wr.heap.size := G3.out.lt
                have h28 : g2 < wr.heap.size := G2.out.lt
                have h8w : w.heap.size ≤ wr.heap.size := GK.out.size
                generalize wr.alloc (.cells #[.int .u8 0, .int .u8 0, .int .u8 0, .int .u8 0, .int .u8 0, .int .u8 0, .int .u8 0, .int .u8 0, .int .u8 0, .int .u8 0, .int .u8 0, .int .u8 0, .int .u8 0, .int .u8 0, .int .u8 0, .int .u8 0] 48) = W8 at *
                obtain ⟨g8, hg8⟩ : ∃ g, wr.heap.size = g := ⟨_, rfl⟩
                rw [hg8] at H88 h38 h28 h8w ⊢
                clear hg8
                go_loopg [11, 57] 16 (fun gk _ v57 wr => SuS4 w g2 g3 g8 z x gk v57 wr)
                case atStart => exact ⟨0, Nat.zero_le _, rfl, rfl, H88.out, H38.out, H28.out, HK8.out⟩
                case round =>
                  obtain ⟨i, hi, hgk, rfl, h8, h3, h2, hk⟩ := hrel
                  have HG4 := Lib.hid hgk
                  have J8 := Lib.hid h8
                  have J3 := Lib.hid h3
                  have J2 := Lib.hid h2
                  have JK := Lib.hid hk
                  clear hgk h8 h3 h2 hk
                  rcases Nat.lt_or_ge i 16 with hlt | hge
                  · obtain ⟨q, hq⟩ : ∃ q, i / 4 = q := ⟨_, rfl⟩
                    obtain ⟨r, hr⟩ : ∃ r, i % 4 = r := ⟨_, rfl⟩
                    have hqi : (i : Int) / 4 = (q : Int) := by omega
                    have hri : (i : Int) % 4 = (r : Int) := by omega
                    have hq4 : q < 4 := by omega
                    have hr4 : r < 4 := by omega
                    have c3 : wr.cell? ⟨g3, q, none⟩ = some (.int .u32 (U (wordN x q))) := by rw [J3.out.cell]; exact cS_at x q hq4
                    have c8 : wr.cell? ⟨g8, i, none⟩ = some (.int .u8 (if i < i then ((outB x i).toNat : Int) else 0)) := by
                      rw [J8.out.cell, outI, List.getElem?_toArray, List.getElem?_map, List.getElem?_range hlt]
                      rfl
                    have f8 := J8.out.frozen i
                    have hgl := J8.out.lt
                    have hset := J8.out.set_ i (.int .u8 ((outB x i).toNat : Int))
                    rw [outI_set x i hlt] at hset
                    have hob : (U (wordN x q) / 2 ^ (8 * r)) % 256 = ((outB x i).toNat : Int) := by
                      unfold outB U
                      rw [hq, hr, UInt8.toNat_ofNat']
                      simp
                    have hub := U_bd (wordN x q)
                    obtain ⟨u, hu⟩ : ∃ u, U (wordN x q) = u := ⟨_, rfl⟩
                    obtain ⟨y, hy⟩ : ∃ y : Nat, (outB x i).toNat = y := ⟨_, rfl⟩
                    rw [hu] at c3 hob hub
                    rw [hy] at hob hset
                    obtain ⟨hub0, hub1⟩ := hub
                    have HS := Lib.hid hset
                    have ti : (i : Int) < 16 := by omega
                    clear hset hq hr hu hy
                    go_wp2_with fail
                    go_roundg (16 - (i + 1))
                    case measure => have := HG4.out; omega
                    case rel => exact ⟨i + 1, hlt, rfl, by go_num, HS.out, J3.out.far (by show g3 ≠ g8; omega) _, J2.out.far (by show g2 ≠ g8; omega) _, JK.out.setCell (.inr h8w) _⟩
                  · obtain rfl : i = 16 := by omega
                    rw [outI_all, ← HRS.out] at J8
                    have hl16 : RES.length = 16 := by rw [HRS.out]; simp [outL]
                    obtain ⟨r0, r1, r2, r3, r4, r5, r6, r7, r8, r9, r10, r11, r12, r13, r14, r15, hre⟩ := list16 RES hl16
                    have HRE := Lib.hid hre
                    rw [hre] at J8
                    rw [← HZ.out] at J2
                    clear hl16 hre
                    have tn5 : ¬ ((16 : Int) < 16) := by omega
                    have c0 : wr.cell? ⟨g8, 0, none⟩ = some (.int .u8 (r0.toNat : Int)) := J8.out.cell 0
                    have d0 : wr.cell? ⟨g2, 0, none⟩ = some (.int .u8 0) := J2.out.cell 0
                    have f0 := J2.out.frozen 0
                    have c1 : wr.cell? ⟨g8, 1, none⟩ = some (.int .u8 (r1.toNat : Int)) := J8.out.cell 1
                    have d1 : wr.cell? ⟨g2, 1, none⟩ = some (.int .u8 0) := J2.out.cell 1
                    have f1 := J2.out.frozen 1
                    have c2 : wr.cell? ⟨g8, 2, none⟩ = some (.int .u8 (r2.toNat : Int)) := J8.out.cell 2
                    have d2 : wr.cell? ⟨g2, 2, none⟩ = some (.int .u8 0) := J2.out.cell 2
                    have f2 := J2.out.frozen 2
                    have c3 : wr.cell? ⟨g8, 3, none⟩ = some (.int .u8 (r3.toNat : Int)) := J8.out.cell 3
                    have d3 : wr.cell? ⟨g2, 3, none⟩ = some (.int .u8 0) := J2.out.cell 3
                    have f3 := J2.out.frozen 3
                    have c4 : wr.cell? ⟨g8, 4, none⟩ = some (.int .u8 (r4.toNat : Int)) := J8.out.cell 4
                    have d4 : wr.cell? ⟨g2, 4, none⟩ = some (.int .u8 0) := J2.out.cell 4
                    have f4 := J2.out.frozen 4
                    have c5 : wr.cell? ⟨g8, 5, none⟩ = some (.int .u8 (r5.toNat : Int)) := J8.out.cell 5
                    have d5 : wr.cell? ⟨g2, 5, none⟩ = some (.int .u8 0) := J2.out.cell 5
                    have f5 := J2.out.frozen 5
                    have c6 : wr.cell? ⟨g8, 6, none⟩ = some (.int .u8 (r6.toNat : Int)) := J8.out.cell 6
                    have d6 : wr.cell? ⟨g2, 6, none⟩ = some (.int .u8 0) := J2.out.cell 6
                    have f6 := J2.out.frozen 6
                    have c7 : wr.cell? ⟨g8, 7, none⟩ = some (.int .u8 (r7.toNat : Int)) := J8.out.cell 7
                    have d7 : wr.cell? ⟨g2, 7, none⟩ = some (.int .u8 0) := J2.out.cell 7
                    have f7 := J2.out.frozen 7
                    have c8 : wr.cell? ⟨g8, 8, none⟩ = some (.int .u8 (r8.toNat : Int)) := J8.out.cell 8
                    have d8 : wr.cell? ⟨g2, 8, none⟩ = some (.int .u8 0) := J2.out.cell 8
                    have f8 := J2.out.frozen 8
                    have c9 : wr.cell? ⟨g8, 9, none⟩ = some (.int .u8 (r9.toNat : Int)) := J8.out.cell 9
                    have d9 : wr.cell? ⟨g2, 9, none⟩ = some (.int .u8 0) := J2.out.cell 9
                    have f9 := J2.out.frozen 9
                    have c10 : wr.cell? ⟨g8, 10, none⟩ = some (.int .u8 (r10.toNat : Int)) := J8.out.cell 10
                    have d10 : wr.cell? ⟨g2, 10, none⟩ = some (.int .u8 0) := J2.out.cell 10
                    have f10 := J2.out.frozen 10
                    have c11 : wr.cell? ⟨g8, 11, none⟩ = some (.int .u8 (r11.toNat : Int)) := J8.out.cell 11
                    have d11 : wr.cell? ⟨g2, 11, none⟩ = some (.int .u8 0) := J2.out.cell 11
                    have f11 := J2.out.frozen 11
                    have c12 : wr.cell? ⟨g8, 12, none⟩ = some (.int .u8 (r12.toNat : Int)) := J8.out.cell 12
                    have d12 : wr.cell? ⟨g2, 12, none⟩ = some (.int .u8 0) := J2.out.cell 12
                    have f12 := J2.out.frozen 12
                    have c13 : wr.cell? ⟨g8, 13, none⟩ = some (.int .u8 (r13.toNat : Int)) := J8.out.cell 13
                    have d13 : wr.cell? ⟨g2, 13, none⟩ = some (.int .u8 0) := J2.out.cell 13
                    have f13 := J2.out.frozen 13
                    have c14 : wr.cell? ⟨g8, 14, none⟩ = some (.int .u8 (r14.toNat : Int)) := J8.out.cell 14
                    have d14 : wr.cell? ⟨g2, 14, none⟩ = some (.int .u8 0) := J2.out.cell 14
                    have f14 := J2.out.frozen 14
                    have c15 : wr.cell? ⟨g8, 15, none⟩ = some (.int .u8 (r15.toNat : Int)) := J8.out.cell 15
                    have d15 : wr.cell? ⟨g2, 15, none⟩ = some (.int .u8 0) := J2.out.cell 15
                    have f15 := J2.out.frozen 15
                    have hgl := J2.out.lt
                    go_wp2_with fail
                    refine bodyPost_ret (results_cell_row rfl _ _ g2 48 _ (0, 0) _ rfl (blk16 J2.out r0 r1 r2 r3 r4 r5 r6 r7 r8 r9 r10 r11 r12 r13 r14 r15) Tryd.underlying48 rfl (by kernel_rfl)) rfl ?_
                    have e2 : w.heap.size ≤ g2 := by rw [HG2.out]; exact Nat.le_refl _
                    exact ⟨by rw [HRE.out]; rfl, kept16 JK.out e2 _ _ _ _ _ _ _ _ _ _ _ _ _ _ _ _⟩
      case inr he =>
        have hE : endN n = 64 := by unfold endN; rw [← HLN.out, ← HML.out, if_neg he]
        have HE := Lib.hid hE
        have te : ¬ (64 : Int) < (m : Int) + 1 + 8 := by omega
        clear hE he
        go_wp2_with fail
        go_loopg [8, 34] 8 (fun gk _ v34 wr => SuS2 w g2 g3 g5 L z s gk v34 wr)
        case atStart => exact ⟨0, Nat.zero_le _, rfl, rfl, HST.out, H37.out, H27.out, HK7.out⟩
        case round =>
          obtain ⟨i, hi, hgk, rfl, h5, h3, h2, hk⟩ := hrel
          have HG := Lib.hid hgk
          have H5 := Lib.hid h5
          have H3 := Lib.hid h3
          have H2 := Lib.hid h2
          have HK := Lib.hid hk
          clear hgk h5 h3 h2 hk
          rcases Nat.lt_or_ge i 8 with hlt8 | hge8
          · have hXl := lastI_len L i
            have hnx : lastI L (i + 1) = (lastI L i).set (56 + i) (lenB n i) := by rw [lastI, HLN.out, HE.out]
            obtain ⟨X, hX⟩ : ∃ X, lastI L i = X := ⟨_, rfl⟩
            rw [hX] at hXl hnx H5
            have hc : wr.cell? ⟨g5, 56 + i, none⟩ = some (.int .u8 ((X.getD (56 + i) 0).toNat : Int)) := by
              rw [H5.out.cell, List.getElem?_toArray, b8s_at X (56 + i) (by omega), List.getD_eq_getElem?_getD, List.getElem?_eq_getElem (by omega : 56 + i < X.length)]
              rfl
            have hf := H5.out.frozen (56 + i)
            have hgl := H5.out.lt
            have hset := H5.out.set_ (56 + i) (B8 (lenB n i))
            rw [b8s_set, ← hnx] at hset
            have hlb : (((n : Int) * 8) / 2 ^ (8 * i)) % 256 = ((lenB n i).toNat : Int) := by
              unfold lenB
              rw [UInt8.toNat_ofNat']
              simp
            obtain ⟨y, hy⟩ : ∃ y : Nat, (lenB n i).toNat = y := ⟨_, rfl⟩
            have hB : B8 (lenB n i) = .int .u8 (y : Int) := by unfold B8; rw [hy]
            rw [hB] at hset
            rw [hy] at hlb
            have HS := Lib.hid hset
            have ti : (i : Int) < 8 := by omega
            clear hX hXl hnx hset hy hB
            go_wp2_with fail
            go_roundg (8 - (i + 1))
            case measure => have := HG.out; omega
            case rel => exact ⟨i + 1, hlt8, rfl, by go_num, HS.out, H3.out.far e35 _, H2.out.far e25 _, HK.out.setCell (.inr e5w) _⟩
          · obtain rfl : i = 8 := by omega
            have tn : ¬ ((8 : Int) < 8) := by omega
            have hXl := lastI_len L 8
            obtain ⟨X, hX⟩ : ∃ X, lastI L 8 = X := ⟨_, rfl⟩
            rw [hX] at hXl H5
            have hsr := HSR.out
            rw [hX, HE.out] at hsr
            have HSR2 := Lib.hid hsr
            have HXL := Lib.hid hXl
            clear hX hXl hsr
            go_wp2_with fail
            go_loopg [9] 1 (fun gk v9 wr => SuS3 w g2 g3 g5 X z s 1 gk v9 wr)
            case atStart => exact ⟨0, Nat.zero_le _, rfl, rfl, H5.out, H3.out, H2.out, HK.out⟩
            case round =>
              obtain ⟨t, ht, hgk, rfl, h5, h3, h2, hk⟩ := hrel
              have HG3 := Lib.hid hgk
              have G5 := Lib.hid h5
              have G3 := Lib.hid h3
              have G2 := Lib.hid h2
              have GK := Lib.hid hk
              clear hgk h5 h3 h2 hk
              rcases (show t = 0 ∨ t = 1 by omega) with rfl | rfl
              · rw [show (((64 * 0 : Nat)) : Int) = 0 from rfl]
                have hnx : blkP s X (0 + 1) = addP (mW ((X.drop 0).take 64)) (blkP s X 0) := rfl
                obtain ⟨x, hx⟩ : ∃ x, blkP s X 0 = x := ⟨_, rfl⟩
                rw [hx] at hnx G3
                obtain ⟨y, hy⟩ : ∃ y, addP (mW ((X.drop 0).take 64)) x = y := ⟨_, rfl⟩
                have hrd := blk_reads G5.out.drew HXL.out (k := 0) (by omega)
                have hst := add_calls wr.drew x (fun b => b = g5) (some ⟨g5, 0, none⟩) 128 128 (X.drop 0) hrd (by omega) (Nat.le_refl _) (by omega) (HC.out.kept0 GK.out.drew)
                rw [hy] at hst hnx
                obtain ⟨x1, x2, x3, x4⟩ := x
                obtain ⟨y1, y2, y3, y4⟩ := y
                unfold vS4 at hst
                simp only at hst
                have c0 : wr.cell? ⟨g3, 0, none⟩ = some (.int .u32 (U x1)) := G3.out.cell 0
                have c1 : wr.cell? ⟨g3, 1, none⟩ = some (.int .u32 (U x2)) := G3.out.cell 1
                have c2 : wr.cell? ⟨g3, 2, none⟩ = some (.int .u32 (U x3)) := G3.out.cell 2
                have c3 : wr.cell? ⟨g3, 3, none⟩ = some (.int .u32 (U x4)) := G3.out.cell 3
                have HS := Lib.hid hst
                have HNX := Lib.hid hnx
                clear hst hnx hrd hx hy
                go_wp2_with fail
                go_still_tail 3, (by kernel_rfl)
                change wpList _ _ _ _ _ wr.drew
                go_wp2_with fail
                refine HS.out.mono ?_
                rintro en wq ⟨rfl, hkq⟩
                have B3 := Lib.hid (G3.out.drew.kept0 hkq)
                have B2 := Lib.hid (G2.out.drew.kept0 hkq)
                have B5 := Lib.hid (G5.out.drew.kept0 hkq)
                have BK := Lib.hid (GK.out.drew.trans' hkq)
                have d0 : wq.cell? ⟨g3, 0, none⟩ = some (.int .u32 (U x1)) := B3.out.cell 0
                have f0 := B3.out.frozen 0
                have d1 : wq.cell? ⟨g3, 1, none⟩ = some (.int .u32 (U x2)) := B3.out.cell 1
                have f1 := B3.out.frozen 1
                have d2 : wq.cell? ⟨g3, 2, none⟩ = some (.int .u32 (U x3)) := B3.out.cell 2
                have f2 := B3.out.frozen 2
                have d3 : wq.cell? ⟨g3, 3, none⟩ = some (.int .u32 (U x4)) := B3.out.cell 3
                have f3 := B3.out.frozen 3
                have hgl := B3.out.lt
                clear hkq c0 c1 c2 c3
                go_wp2_with fail
                go_roundg (1 - (0 + 1))
                case measure => have := HG3.out; omega
                case rel =>
                  have e3 : w.heap.size ≤ g3 := by rw [HG2.out]; exact hg3l
                  exact ⟨0 + 1, by omega, rfl, rfl, far4 B5.out (Ne.symm e35) _ _ _ _, by rw [HNX.out]; exact blk4 B3.out _ _ _ _, far4 B2.out hg23 _ _ _ _, kept4 BK.out e3 _ _ _ _⟩
              · rw [show (((64 * 1 : Nat)) : Int) = 64 from rfl]
                obtain ⟨x, hx⟩ : ∃ x, blkP s X 1 = x := ⟨_, rfl⟩
                have hres := HSR2.out
                rw [show 64 / 64 = 1 from rfl, hx] at hres
                rw [hx] at G3
                have HRS := Lib.hid hres
                clear hres hx
                go_wp2_with fail
                have HK8 := Lib.hid (GK.out.alloc (.cells #[.int .u8 0, .int .u8 0, .int .u8 0, .int .u8 0, .int .u8 0, .int .u8 0, .int .u8 0, .int .u8 0, .int .u8 0, .int .u8 0, .int .u8 0, .int .u8 0, .int .u8 0, .int .u8 0, .int .u8 0, .int .u8 0] 48))
                have H38 := Lib.hid (G3.out.alloc (.cells #[.int .u8 0, .int .u8 0, .int .u8 0, .int .u8 0, .int .u8 0, .int .u8 0, .int .u8 0, .int .u8 0, .int .u8 0, .int .u8 0, .int .u8 0, .int .u8 0, .int .u8 0, .int .u8 0, .int .u8 0, .int .u8 0] 48))
                have H28 := Lib.hid (G2.out.alloc (.cells #[.int .u8 0, .int .u8 0, .int .u8 0, .int .u8 0, .int .u8 0, .int .u8 0, .int .u8 0, .int .u8 0, .int .u8 0, .int .u8 0, .int .u8 0, .int .u8 0, .int .u8 0, .int .u8 0, .int .u8 0, .int .u8 0] 48))
                have H88 := Lib.hid (Blk.new wr 48 #[.int .u8 0, .int .u8 0, .int .u8 0, .int .u8 0, .int .u8 0, .int .u8 0, .int .u8 0, .int .u8 0, .int .u8 0, .int .u8 0, .int .u8 0, .int .u8 0, .int .u8 0, .int .u8 0, .int .u8 0, .int .u8 0])
                have h38 : g3 < wr.heap.size := G3.out.lt
                have h28 : g2 < wr.heap.size := G2.out.lt
                have h8w : w.heap.size ≤ wr.heap.size := GK.out.size
                generalize wr.alloc (.cells #[.int .u8 0, .int .u8 0, .int .u8 0, .int .u8 0, .int .u8 0, .int .u8 0, .int .u8 0, .int .u8 0, .int .u8 0, .int .u8 0, .int .u8 0, .int .u8 0, .int .u8 0, .int .u8 0, .int .u8 0, .int .u8 0] 48) = W8 at *
                obtain ⟨g8, hg8⟩ : ∃ g, wr.heap.size = g := ⟨_, rfl⟩
                rw [hg8] at H88 h38 h28 h8w ⊢
                clear hg8
                go_loopg [11, 57] 16 (fun gk _ v57 wr => SuS4 w g2 g3 g8 z x gk v57 wr)
                case atStart => exact ⟨0, Nat.zero_le _, rfl, rfl, H88.out, H38.out, H28.out, HK8.out⟩
                case round =>
                  obtain ⟨i, hi, hgk, rfl, h8, h3, h2, hk⟩ := hrel
                  have HG4 := Lib.hid hgk
                  have J8 := Lib.hid h8
                  have J3 := Lib.hid h3
                  have J2 := Lib.hid h2
                  have JK := Lib.hid hk
                  clear hgk h8 h3 h2 hk
                  rcases Nat.lt_or_ge i 16 with hlt | hge
                  · obtain ⟨q, hq⟩ : ∃ q, i / 4 = q := ⟨_, rfl⟩
                    obtain ⟨r, hr⟩ : ∃ r, i % 4 = r := ⟨_, rfl⟩
                    have hqi : (i : Int) / 4 = (q : Int) := by omega
                    have hri : (i : Int) % 4 = (r : Int) := by omega
                    have hq4 : q < 4 := by omega
                    have hr4 : r < 4 := by omega
                    have c3 : wr.cell? ⟨g3, q, none⟩ = some (.int .u32 (U (wordN x q))) := by rw [J3.out.cell]; exact cS_at x q hq4
                    have c8 : wr.cell? ⟨g8, i, none⟩ = some (.int .u8 (if i < i then ((outB x i).toNat : Int) else 0)) := by
                      rw [J8.out.cell, outI, List.getElem?_toArray, List.getElem?_map, List.getElem?_range hlt]
                      rfl
                    have f8 := J8.out.frozen i
                    have hgl := J8.out.lt
                    have hset := J8.out.set_ i (.int .u8 ((outB x i).toNat : Int))
                    rw [outI_set x i hlt] at hset
                    have hob : (U (wordN x q) / 2 ^ (8 * r)) % 256 = ((outB x i).toNat : Int) := by
                      unfold outB U
                      rw [hq, hr, UInt8.toNat_ofNat']
                      simp
                    have hub := U_bd (wordN x q)
                    obtain ⟨u, hu⟩ : ∃ u, U (wordN x q) = u := ⟨_, rfl⟩
                    obtain ⟨y, hy⟩ : ∃ y : Nat, (outB x i).toNat = y := ⟨_, rfl⟩
                    rw [hu] at c3 hob hub
                    rw [hy] at hob hset
                    obtain ⟨hub0, hub1⟩ := hub
                    have HS := Lib.hid hset
                    have ti : (i : Int) < 16 := by omega
                    clear hset hq hr hu hy
                    go_wp2_with fail
                    go_roundg (16 - (i + 1))
                    case measure => have := HG4.out; omega
                    case rel => exact ⟨i + 1, hlt, rfl, by go_num, HS.out, J3.out.far (by show g3 ≠ g8; omega) _, J2.out.far (by show g2 ≠ g8; omega) _, JK.out.setCell (.inr h8w) _⟩
                  · obtain rfl : i = 16 := by omega
                    rw [outI_all, ← HRS.out] at J8
                    have hl16 : RES.length = 16 := by rw [HRS.out]; simp [outL]
                    obtain ⟨r0, r1, r2, r3, r4, r5, r6, r7, r8, r9, r10, r11, r12, r13, r14, r15, hre⟩ := list16 RES hl16
                    have HRE := Lib.hid hre
                    rw [hre] at J8
                    rw [← HZ.out] at J2
                    clear hl16 hre
                    have tn5 : ¬ ((16 : Int) < 16) := by omega
                    have c0 : wr.cell? ⟨g8, 0, none⟩ = some (.int .u8 (r0.toNat : Int)) := J8.out.cell 0
                    have d0 : wr.cell? ⟨g2, 0, none⟩ = some (.int .u8 0) := J2.out.cell 0
                    have f0 := J2.out.frozen 0
                    have c1 : wr.cell? ⟨g8, 1, none⟩ = some (.int .u8 (r1.toNat : Int)) := J8.out.cell 1
                    have d1 : wr.cell? ⟨g2, 1, none⟩ = some (.int .u8 0) := J2.out.cell 1
                    have f1 := J2.out.frozen 1
                    have c2 : wr.cell? ⟨g8, 2, none⟩ = some (.int .u8 (r2.toNat : Int)) := J8.out.cell 2
                    have d2 : wr.cell? ⟨g2, 2, none⟩ = some (.int .u8 0) := J2.out.cell 2
                    have f2 := J2.out.frozen 2
                    have c3 : wr.cell? ⟨g8, 3, none⟩ = some (.int .u8 (r3.toNat : Int)) := J8.out.cell 3
                    have d3 : wr.cell? ⟨g2, 3, none⟩ = some (.int .u8 0) := J2.out.cell 3
                    have f3 := J2.out.frozen 3
                    have c4 : wr.cell? ⟨g8, 4, none⟩ = some (.int .u8 (r4.toNat : Int)) := J8.out.cell 4
                    have d4 : wr.cell? ⟨g2, 4, none⟩ = some (.int .u8 0) := J2.out.cell 4
                    have f4 := J2.out.frozen 4
                    have c5 : wr.cell? ⟨g8, 5, none⟩ = some (.int .u8 (r5.toNat : Int)) := J8.out.cell 5
                    have d5 : wr.cell? ⟨g2, 5, none⟩ = some (.int .u8 0) := J2.out.cell 5
                    have f5 := J2.out.frozen 5
                    have c6 : wr.cell? ⟨g8, 6, none⟩ = some (.int .u8 (r6.toNat : Int)) := J8.out.cell 6
                    have d6 : wr.cell? ⟨g2, 6, none⟩ = some (.int .u8 0) := J2.out.cell 6
                    have f6 := J2.out.frozen 6
                    have c7 : wr.cell? ⟨g8, 7, none⟩ = some (.int .u8 (r7.toNat : Int)) := J8.out.cell 7
                    have d7 : wr.cell? ⟨g2, 7, none⟩ = some (.int .u8 0) := J2.out.cell 7
                    have f7 := J2.out.frozen 7
                    have c8 : wr.cell? ⟨g8, 8, none⟩ = some (.int .u8 (r8.toNat : Int)) := J8.out.cell 8
                    have d8 : wr.cell? ⟨g2, 8, none⟩ = some (.int .u8 0) := J2.out.cell 8
                    have f8 := J2.out.frozen 8
                    have c9 : wr.cell? ⟨g8, 9, none⟩ = some (.int .u8 (r9.toNat : Int)) := J8.out.cell 9
                    have d9 : wr.cell? ⟨g2, 9, none⟩ = some (.int .u8 0) := J2.out.cell 9
                    have f9 := J2.out.frozen 9
                    have c10 : wr.cell? ⟨g8, 10, none⟩ = some (.int .u8 (r10.toNat : Int)) := J8.out.cell 10
                    have d10 : wr.cell? ⟨g2, 10, none⟩ = some (.int .u8 0) := J2.out.cell 10
                    have f10 := J2.out.frozen 10
                    have c11 : wr.cell? ⟨g8, 11, none⟩ = some (.int .u8 (r11.toNat : Int)) := J8.out.cell 11
                    have d11 : wr.cell? ⟨g2, 11, none⟩ = some (.int .u8 0) := J2.out.cell 11
                    have f11 := J2.out.frozen 11
                    have c12 : wr.cell? ⟨g8, 12, none⟩ = some (.int .u8 (r12.toNat : Int)) := J8.out.cell 12
                    have d12 : wr.cell? ⟨g2, 12, none⟩ = some (.int .u8 0) := J2.out.cell 12
                    have f12 := J2.out.frozen 12
                    have c13 : wr.cell? ⟨g8, 13, none⟩ = some (.int .u8 (r13.toNat : Int)) := J8.out.cell 13
                    have d13 : wr.cell? ⟨g2, 13, none⟩ = some (.int .u8 0) := J2.out.cell 13
                    have f13 := J2.out.frozen 13
                    have c14 : wr.cell? ⟨g8, 14, none⟩ = some (.int .u8 (r14.toNat : Int)) := J8.out.cell 14
                    have d14 : wr.cell? ⟨g2, 14, none⟩ = some (.int .u8 0) := J2.out.cell 14
                    have f14 := J2.out.frozen 14
                    have c15 : wr.cell? ⟨g8, 15, none⟩ = some (.int .u8 (r15.toNat : Int)) := J8.out.cell 15
                    have d15 : wr.cell? ⟨g2, 15, none⟩ = some (.int .u8 0) := J2.out.cell 15
                    have f15 := J2.out.frozen 15
                    have hgl := J2.out.lt
                    go_wp2_with fail
                    refine bodyPost_ret (results_cell_row rfl _ _ g2 48 _ (0, 0) _ rfl (blk16 J2.out r0 r1 r2 r3 r4 r5 r6 r7 r8 r9 r10 r11 r12 r13 r14 r15) Tryd.underlying48 rfl (by kernel_rfl)) rfl ?_
                    have e2 : w.heap.size ≤ g2 := by rw [HG2.out]; exact Nat.le_refl _
                    exact ⟨by rw [HRE.out]; rfl, kept16 JK.out e2 _ _ _ _ _ _ _ _ _ _ _ _ _ _ _ _⟩
    · have t64 : (64 : Int) ≤ (m : Int) := by omega
      have hst := add_calls wr (blkP initS L k) S A' m c' (L.drop (64 * k)) HRD.out hge hlc hcc (HC.out.kept0 HKP.out)
      have hnx : blkP initS L (k + 1) = addP (mW ((L.drop (64 * k)).take 64)) (blkP initS L k) := rfl
      obtain ⟨x, hx⟩ : ∃ x, blkP initS L k = x := ⟨_, rfl⟩
      rw [hx] at hst hnx H3
      obtain ⟨y, hy⟩ : ∃ y, addP (mW ((L.drop (64 * k)).take 64)) x = y := ⟨_, rfl⟩
      rw [hy] at hst hnx
      obtain ⟨x1, x2, x3, x4⟩ := x
      obtain ⟨y1, y2, y3, y4⟩ := y
      unfold vS4 at hst
      simp only at hst
      have c0 : wr.cell? ⟨g3, 0, none⟩ = some (.int .u32 (U x1)) := H3.out.cell 0
      have c1 : wr.cell? ⟨g3, 1, none⟩ = some (.int .u32 (U x2)) := H3.out.cell 1
      have c2 : wr.cell? ⟨g3, 2, none⟩ = some (.int .u32 (U x3)) := H3.out.cell 2
      have c3 : wr.cell? ⟨g3, 3, none⟩ = some (.int .u32 (U x4)) := H3.out.cell 3
      obtain ⟨ad, rfl, hadS, hadl, hcell⟩ := HRD.out.2 (by omega)
      have hdr : Reads wr S (some (ad.add 64)) (m - 64) (b8s (L.drop (64 * (k + 1)))) := by
        have := HRD.out.drop (k := 64) (cap := m + 65) hge (by omega)
        rw [if_neg (by omega)] at this
        rw [show 64 * (k + 1) = 64 * k + 64 by omega, ← List.drop_drop, ← b8s_drop]
        exact this
      have HST := Lib.hid hst
      have HNX := Lib.hid hnx
      have HDR := Lib.hid hdr
      have HC' := Lib.hid hcell
      clear hst hnx hx hy hdr hcell
      rcases Nat.lt_or_eq_of_le (Nat.le_trans hge hlc) with hc64 | hc64
      · have tc : (64 : Int) < (c' : Int) := by omega
        have tc' : ¬ c' = 64 := by omega
        have tc'' : ¬ c' - 64 = 0 := by omega
        go_wp2_with fail
        refine HST.out.mono ?_
        rintro en w6 ⟨rfl, hk6⟩
        have HQ3 := Lib.hid (H3.out.kept0 hk6)
        have HQ2 := Lib.hid (H2.out.kept0 hk6)
        have HQK := Lib.hid (HKP.out.trans' hk6)
        have HQR := Lib.hid (HDR.out.kept0 hk6)
        have d0 : w6.cell? ⟨g3, 0, none⟩ = some (.int .u32 (U x1)) := HQ3.out.cell 0
        have f0 := HQ3.out.frozen 0
        have d1 : w6.cell? ⟨g3, 1, none⟩ = some (.int .u32 (U x2)) := HQ3.out.cell 1
        have f1 := HQ3.out.frozen 1
        have d2 : w6.cell? ⟨g3, 2, none⟩ = some (.int .u32 (U x3)) := HQ3.out.cell 2
        have f2 := HQ3.out.frozen 2
        have d3 : w6.cell? ⟨g3, 3, none⟩ = some (.int .u32 (U x4)) := HQ3.out.cell 3
        have f3 := HQ3.out.frozen 3
        have hgl := HQ3.out.lt
        clear hk6 c0 c1 c2 c3
        go_wp2_with fail
        go_roundg (L.length / 64 - (k + 1))
        case measure => have := HG.out; have := HM.out; omega
        case rel =>
          have hM := HM.out
          have e : w.heap.size ≤ g3 := by rw [HG2.out]; exact hg3l
          have hm2 : L.length - 64 * (k + 1) = m - 64 := by omega
          exact ⟨k + 1, some (ad.add 64), c' - 64, by omega, rfl, by rw [hm2]; rfl, by omega, by omega, by rw [hm2]; exact HQR.out.kept (own4 w6 g3 _ _ _ _) (fun b _ hb hg => by have := HSB.out b hb; omega), by rw [HNX.out]; exact blk4 HQ3.out _ _ _ _, far4 HQ2.out hg23 _ _ _ _, kept4 HQK.out e _ _ _ _⟩
      · obtain rfl := hc64
        obtain rfl : m = 64 := by omega
        go_wp2_with fail
        refine HST.out.mono ?_
        rintro en w6 ⟨rfl, hk6⟩
        have HQ3 := Lib.hid (H3.out.kept0 hk6)
        have HQ2 := Lib.hid (H2.out.kept0 hk6)
        have HQK := Lib.hid (HKP.out.trans' hk6)
        have HQR := Lib.hid (HDR.out.kept0 hk6)
        have d0 : w6.cell? ⟨g3, 0, none⟩ = some (.int .u32 (U x1)) := HQ3.out.cell 0
        have f0 := HQ3.out.frozen 0
        have d1 : w6.cell? ⟨g3, 1, none⟩ = some (.int .u32 (U x2)) := HQ3.out.cell 1
        have f1 := HQ3.out.frozen 1
        have d2 : w6.cell? ⟨g3, 2, none⟩ = some (.int .u32 (U x3)) := HQ3.out.cell 2
        have f2 := HQ3.out.frozen 2
        have d3 : w6.cell? ⟨g3, 3, none⟩ = some (.int .u32 (U x4)) := HQ3.out.cell 3
        have f3 := HQ3.out.frozen 3
        have hgl := HQ3.out.lt
        clear hk6 c0 c1 c2 c3
        go_wp2_with fail
        go_roundg (L.length / 64 - (k + 1))
        case measure => have := HG.out; have := HM.out; omega
        case rel =>
          have hM := HM.out
          have e : w.heap.size ≤ g3 := by rw [HG2.out]; exact hg3l
          have hm2 : L.length - 64 * (k + 1) = 0 := by omega
          have hnil : L.drop (64 * (k + 1)) = [] := List.drop_eq_nil_of_le (by omega)
          exact ⟨k + 1, _, 0, by omega, rfl, by rw [hm2], by omega, by omega, by rw [hm2, hnil]; exact Reads.nil _ _ _, by rw [HNX.out]; exact blk4 HQ3.out _ _ _ _, far4 HQ2.out hg23 _ _ _ _, kept4 HQK.out e _ _ _ _⟩
theorem sum_any (w : World) (S : Nat → Prop) (A : Option Addr) (n c : Nat) (L : List UInt8) (hR : Reads w S A n (b8s L)) (hnc : n ≤ c) (hnb : n ≤ 1099511627776) (hcb : c ≤ 9223372036854775807) (hC : SinC w) :
    Calls Tryd.prog 31 #[.slice A n c] w fun en w' => en = .returned (v16 (md5P L)) ∧ Kept w w' NoB :=
  sum_calls w (fun k => k < w.heap.size) A n c L (hR.mono fun k hk _ => hk) hnc hnb hcb (fun _ h => h) hC
end Go.Proofs.YthnebhnlkjkcmaaDoor
