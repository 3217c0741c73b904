/- Variables: builders, texts. -/
import Derived.Test.YtcggpedebcamdaaDoorW
import Derived.Test.YtcggpedebcamdaaDoorShV
import Derived.Test.YtcggpedebcamdaaDoorMap
import Derived.Test.YtcggpedebcamdaaDoorVarP
import Derived.Test.YtcggpedebcamdaaDoorCapsP
import Derived.Lib.LaidTab
import Derived.KernelRfl
import Derived.Outline
import Derived.Shelf.Vars
set_option linter.unusedVariables false
set_option linter.unusedSimpArgs false
namespace Go.Proofs.YtcggpedebcamdaaDoor
open Go.RowKit Go.Shelf Go.Lib

theorem strB_cut (L : List UInt8) (i j : Nat) : (strB L).extract i j = strB ((L.drop i).take (j - i)) := by
  apply ByteArray.ext
  simp [strB, ByteArray.data_extract, List.extract_toArray, List.extract_eq_take_drop]
theorem strB_of (s : ByteArray) : ∃ l, s = strB l ∧ l.length = s.size := ⟨s.data.toList, (strB_data s).symm, by rw [Array.length_toList]; rfl⟩
theorem strB_getI (l : List UInt8) (i : Nat) (h : i < (strB l).size) : (strB l)[i] = l[i]'(by rwa [strB_size] at h) := by
  rfl
theorem strB_app (l m : List UInt8) : strB l ++ strB m = strB (l ++ m) := by
  apply ByteArray.ext
  simp [strB]
theorem strs_at (ls : List (List UInt8)) (k : Nat) (h : k < ls.length) : (strs ls)[k]? = some (.string (strB ls[k])) := by simp [strs, List.getElem?_eq_getElem h]

theorem bE166 : Builder.Extra Tryd.prog shRen166 where
  sizeBuilder := by kernel_rfl
  liesBuilder := by kernel_rfl
  t5 := Tryd.underlying5
  a5 := Tryd.isAgg5
  z5 := Tryd.sizeOf5
  v5 := Tryd.zeroValue5
  infoByte := by kernel_rfl
  cellsByte := by kernel_rfl
  sizeByte := by kernel_rfl
  neB5 := by decide
theorem bE169 : Builder.Extra Tryd.prog shRen169 where
  sizeBuilder := by kernel_rfl
  liesBuilder := by kernel_rfl
  t5 := Tryd.underlying5
  a5 := Tryd.isAgg5
  z5 := Tryd.sizeOf5
  v5 := Tryd.zeroValue5
  infoByte := by kernel_rfl
  cellsByte := by kernel_rfl
  sizeByte := by kernel_rfl
  neB5 := by decide
/-- Block b is a builder of the call's own (made at b), that holds these bytes. -/
def Bld (w : World) (b : Nat) (l : List UInt8) : Prop := Lib.IsBuilder 52 5 b b (Lib.byteCells l) w
theorem Bld.new (w : World) : Bld (w.alloc (.cells #[.pointer none, .slice none 0 0] 52)) w.heap.size [] := Lib.fresh_isBuilder _ _ _
theorem Bld.kept0 {w w' : World} {b : Nat} {l : List UInt8} (h : Bld w b l) (k : Kept w w' NoB) : Bld w' b l := by
  have own : ∀ {v : Value} {n : Nat} {xs : List Value}, w.ownsRow b 5 1 v n xs → w'.ownsRow b 5 1 v n xs := by
    intro v n xs h
    refine ⟨h.1, ?_⟩
    rcases h.2 with h2 | ⟨g, cap, cur, rfl, hb, hh, r⟩
    · exact .inl h2
    · exact .inr ⟨g, cap, cur, rfl, hb, k.heap hh fun x => x, r⟩
  rcases h with ⟨hB, v, hb, hown, hne⟩ | ⟨hB, v, hb, hown, hne⟩
  · exact .inl ⟨hB, v, k.heap hb fun x => x, own hown, hne⟩
  · exact .inr ⟨hB, v, k.heap hb fun x => x, own hown, hne⟩
theorem Bld.lt {w : World} {b : Nat} {l : List UInt8} (h : Bld w b l) : b < w.heap.size := by
  rcases h with ⟨hB, v, hb, hown, hne⟩ | ⟨hB, v, hb, hown, hne⟩ <;> exact (Array.getElem?_eq_some_iff.1 hb).1
theorem Bld.of_at {w : World} {b : Nat} {p : Value} {l : List UInt8} (hp : p = .pointer (some ⟨b, 0, none⟩)) (h : Lib.BuilderAt 52 5 b b p (Lib.byteCells l) w) : Bld w b l := by
  subst hp
  exact .inr h
theorem writeString_calls (b : Nat) (l m : List UInt8) (w : World) (h : Bld w b l) (hlen : l.length + m.length ≤ 140737488355328) :
    Calls Tryd.prog 25 #[.pointer (some ⟨b, 0, none⟩), .string (strB m)] w fun e w' => e = .returned (.tuple #[.int .i64 (m.length : Int), .nilIface]) ∧ Bld w' b (l ++ m) ∧ Below b w w' := by
  refine (Any.Builder_WriteString shLays166 bE166 b b (Lib.byteCells l) (strB m) w h (by rw [Lib.byteCells_length, strB_size]; exact hlen) (Nat.le_of_lt h.lt)).mono fun e w' r => ⟨by rw [r.1, strB_size], ?_, r.2.2⟩
  refine Bld.of_at rfl ?_
  have := r.2.1
  rw [show Lib.byteCells (l ++ m) = Lib.byteCells l ++ Lib.strCells (strB m) by simp [Lib.byteCells, Lib.strCells, strB]]
  exact this
theorem bldString_calls (b : Nat) (l : List UInt8) (w : World) (h : Bld w b l) :
    Calls Tryd.prog 27 #[.pointer (some ⟨b, 0, none⟩)] w fun e w' => e = .returned (.string (strB l)) ∧ Below b w w' :=
  Any.Builder_String_any shLays169 bE169 b b l w h (Nat.le_of_lt h.lt)

/-- internal/bytealg.MaxLen holds some number. -/
def MaxI (w : World) : Prop := ∃ m, w.cell? ⟨0, 0, none⟩ = some (.int .i64 m)
theorem MaxI.kept0 {w w' : World} (h : MaxI w) (k : Kept w w' NoB) : MaxI w' := by
  obtain ⟨m, hm⟩ := h
  exact ⟨m, k.cell hm fun x => x⟩
theorem MaxI.of_shape {w : World} (h : w.ShapedOpen Tryd.prog) : MaxI w :=
  cell_of_shapedOpen_int (P := Tryd.prog) (g := 0) (t := 3) (zero := #[.int .i64 0]) h (of_decide_eq_true (by kernel_rfl)) (by kernel_rfl) rfl (by kernel_rfl) (by kernel_rfl) Tryd.underlying3

end Go.Proofs.YtcggpedebcamdaaDoor
