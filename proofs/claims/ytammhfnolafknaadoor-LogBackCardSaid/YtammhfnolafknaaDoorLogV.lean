/- Split, a piece's length. -/
import Derived.Test.YtammhfnolafknaaDoorLogT
import Derived.Test.YtammhfnolafknaaDoorShH
import Derived.Lib.SplitLaws
import Derived.Shelf.Vars
set_option linter.unusedVariables false
set_option linter.unusedSimpArgs false
namespace Go.Proofs.YtammhfnolafknaaDoor
open Go.RowKit Go.Shelf

/-- internal/bytealg.MaxLen holds some number. -/
def MaxI (w : World) : Prop := ∃ m, w.cell? ⟨0, 0, none⟩ = some (.int .i64 m)
theorem MaxI.kept0 {w w' : World} (h : MaxI w) (k : Kept w w' NoB) : MaxI w' := by
  obtain ⟨m, hm⟩ := h
  exact ⟨m, k.cell hm fun x => x⟩
theorem MaxI.of_shape {w : World} (h : w.ShapedOpen Tryd.prog) : MaxI w :=
  cell_of_shapedOpen_int (P := Tryd.prog) (g := 0) (t := 3) (zero := #[.int .i64 0]) h (of_decide_eq_true (by kernel_rfl)) (by kernel_rfl) rfl (by kernel_rfl) (by kernel_rfl) Tryd.underlying3

theorem split_calls (w : World) (l sep : List UInt8) (hl : l.length ≤ 1099511627) (hs : 1 ≤ sep.length) (hm : MaxI w) {S : ByteArray} (hS : strB sep = S) :
    Calls Tryd.prog 28 #[.string (strB l), .string S] w fun en w' => en = .returned (.slice (some ⟨w.heap.size, 0, none⟩) (Lib.split l sep).length (Lib.split l sep).length) ∧ w' = w.alloc (.cells (strs (Lib.split l sep)).toArray 9) := by
  subst hS
  obtain ⟨m, hm⟩ := hm
  have hd := Lib.splitB_data (strB sep) 0 (Lib.countB (strB l) (strB sep)) (strB l)
  rw [strB_toList, strB_toList] at hd
  have hck : Lib.countB (strB l) (strB sep) = Lib.count l sep := by
    unfold Lib.countB
    rw [strB_toList, strB_toList]
  rw [hck] at hd
  have hlen := Lib.splitB_all (strB sep) (by rw [strB_size]; exact hs) 0 _ (strB l) rfl
  rw [hck] at hlen
  refine (Any.strings_Split shLays146 (by kernel_rfl) (strB l) (strB sep) m w (by rw [strB_size]; omega) hm (by rw [strB_size]; exact hs)).mono fun en w' h => ?_
  rw [hck] at h
  have e : (Lib.split l sep).length = Lib.count l sep + 1 := by
    unfold Lib.split
    rw [← hd, List.length_map, hlen]
  refine ⟨by rw [h.1, e], ?_⟩
  rw [h.2]
  congr 3
  unfold strs Lib.split
  rw [← hd, List.map_map]
  refine List.map_congr_left fun s _ => ?_
  simp [strB_data]
theorem split_len (l sep : List UInt8) : (Lib.split l sep).length ≤ l.length + 2 := by
  unfold Lib.split
  have h : ∀ (k : Nat) (s : List UInt8), (Lib.splitK sep 0 k s).length ≤ k + 1 := by
    intro k
    induction k with
    | zero => intro s; simp [Lib.splitK]
    | succ k ih =>
      intro s
      rw [Lib.splitK]
      split
      · simp
      · have := ih (s.drop ((Lib.index s sep).toNat + sep.length))
        simp only [List.length_cons]
        omega
  have h1 := h (Lib.count l sep) l
  have h2 := Lib.count_le l sep
  omega

end Go.Proofs.YtammhfnolafknaaDoor
