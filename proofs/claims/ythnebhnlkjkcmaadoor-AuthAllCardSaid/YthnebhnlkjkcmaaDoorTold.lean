/- What is told: texts as letters. -/
import Derived.Test.YthnebhnlkjkcmaaDoorShJ
import Derived.Test.YthnebhnlkjkcmaaDoorPut
import Derived.Lib.Join
set_option linter.unusedVariables false
set_option linter.unusedSimpArgs false
namespace Go.Proofs.YthnebhnlkjkcmaaDoor
open Go.RowKit Go.Shelf

theorem bE156 : Builder.Extra Tryd.prog shRen156 where
  sizeBuilder := by kernel_rfl
  liesBuilder := by kernel_rfl
  t5 := Tryd.underlying5
  a5 := Tryd.isAgg5
  z5 := Tryd.sizeOf5
  v5 := Tryd.zeroValue5
  infoByte := by kernel_rfl
  cellsByte := by kernel_rfl
  sizeByte := by kernel_rfl
  neB5 := by decide
theorem join0 (xs : List (List UInt8)) : Lib.join xs [] = xs.flatten := by
  cases xs with
  | nil => rfl
  | cons x r =>
    rw [Lib.join_cons, Lib.joinTail]
    simp
set_option maxHeartbeats 2000000 in
set_option maxRecDepth 100000 in
theorem told_calls (w : World) (g n c : Nat) (xs : List (List UInt8)) (hn : xs.length = n) (hcells : ∀ (j : Nat) y, (xs.map strB)[j]? = some y → w.cell? ⟨g, 0 + j, none⟩ = some (.string y)) (hg : g < w.heap.size) (hc : n ≤ c) (h4 : n ≤ 100) (hl : xs.flatten.length ≤ 1099511627)
    {s : ByteArray} (hs : strB (put64 xs.flatten) = s) :
    Calls Tryd.prog 24 #[.slice (some ⟨g, 0, none⟩) n c] w fun en w' => en = .returned (.string s) ∧ Kept w w' NoB := by
  have kb := fun (W : World) (s : ByteArray) => Lib.run_convert_string_bytes (P := Tryd.prog) W 9 27 5 s Tryd.underlying9 Tryd.underlying27 Tryd.underlying5
  have hj : Lib.join ((xs.map strB).map (·.data.toList)) ((⟨#[]⟩ : ByteArray).data.toList) = xs.flatten := by
    rw [List.map_map, show ((fun x : ByteArray => x.data.toList) ∘ strB) = id from funext strB_toList, List.map_id]
    exact join0 xs
  obtain ⟨F, hF⟩ : ∃ F, xs.flatten = F := ⟨_, rfl⟩
  rw [hF] at hl hs hj
  have hJ := Any.strings_Join shLays156 bE156 g 0 c (xs.map strB) ⟨#[]⟩ w hcells hg (by rw [List.length_map]; omega) (by rw [List.length_map]; omega) (by rw [hj]; omega)
  rw [hj, List.length_map, hn] at hJ
  have hP : ∀ W, Calls Tryd.prog 14 #[.slice (some ⟨W.heap.size, 0, none⟩) F.length (grownCap W F.length 0 5)] (Lib.bytesWorld W 5 (strB F)) fun en w' => en = .returned (.string s) ∧ Kept (Lib.bytesWorld W 5 (strB F)) w' NoB := by
    intro W
    have hrb := Reads.bytesW W 5 (strB F)
    rw [strB_size, strB_toList] at hrb
    exact put64_any (w1 := W) hrb (by omega) (grownCap_ge _ _ _ _) hs
  have HJ := Lib.hid hJ
  have HP := Lib.hid hP
  clear hJ hj hcells hs hP hF
  go_enter Tryd.func24, Tryd.ntmps24
  go_wp2_with fail
  refine HJ.out.mono ?_
  rintro en w1 ⟨rfl, hb⟩
  have HK1 := Lib.hid (Kept.of_below hb)
  have e : (⟨F.toArray⟩ : ByteArray) = strB F := rfl
  rw [e]
  clear hb HJ e
  go_wp2_with fail
  refine (HP.out _).mono ?_
  rintro en w2 ⟨rfl, hk⟩
  have HK2 := Lib.hid ((HK1.out.bytesW _ _).trans' hk)
  clear hk
  go_wp2_with fail
  go_ret
  exact ⟨rfl, HK2.out⟩
set_option maxHeartbeats 2000000 in
set_option maxRecDepth 100000 in
theorem plainA_calls (w : World) (u p : List UInt8) (hu : u.length ≤ 1000) (hp : p.length ≤ 1000) {s : ByteArray} (hs : strB (put64 (0 :: (u ++ 0 :: p))) = s) :
    Calls Tryd.prog 11 #[.string (strB u), .string (strB p)] w fun en w' => en = .returned (.string s) ∧ Kept w w' NoB := by
  have hf : [[0], u, [0], p].flatten = 0 :: (u ++ 0 :: p) := by simp
  have hT : ∀ W g, Blk W g 9 #[.string (strB [0]), .string (strB u), .string (strB [0]), .string (strB p)] → Calls Tryd.prog 24 #[.slice (some ⟨g, 0, none⟩) 4 4] W fun en w' => en = .returned (.string s) ∧ Kept W w' NoB := by
    intro W g hb
    refine told_calls W g 4 4 [[0], u, [0], p] rfl (fun j y hy => ?_) hb.lt (Nat.le_refl _) (by omega) (by rw [hf]; simp; omega) (by rw [hf]; exact hs)
    rw [show (⟨g, 0 + j, none⟩ : Addr) = ⟨g, j, none⟩ from by rw [Nat.zero_add], hb.cell]
    match j, hy with
    | 0, hy => obtain rfl := Option.some.inj hy; rfl
    | 1, hy => obtain rfl := Option.some.inj hy; rfl
    | 2, hy => obtain rfl := Option.some.inj hy; rfl
    | 3, hy => obtain rfl := Option.some.inj hy; rfl
    | j + 4, hy => cases hy
  have HT := Lib.hid hT
  clear hT hf hs
  go_enter Tryd.func11, Tryd.ntmps11
  go_wp2_with fail
  refine (HT.out _ _ (Blk.new w _ _)).mono ?_
  rintro en w1 ⟨rfl, hk⟩
  have HK := Lib.hid (((Kept.refl w NoB).alloc _).trans' hk)
  clear hk
  go_wp2_with fail
  go_ret
  exact ⟨rfl, HK.out⟩
set_option maxHeartbeats 2000000 in
set_option maxRecDepth 100000 in
theorem loginA_calls (w : World) (u : List UInt8) (hu : u.length ≤ 1000) {s : ByteArray} (hs : strB (put64 u) = s) :
    Calls Tryd.prog 12 #[.string (strB u)] w fun en w' => en = .returned (.string s) ∧ Kept w w' NoB := by
  have hf : [u].flatten = u := by simp
  have hT : ∀ W g, Blk W g 9 #[.string (strB u)] → Calls Tryd.prog 24 #[.slice (some ⟨g, 0, none⟩) 1 1] W fun en w' => en = .returned (.string s) ∧ Kept W w' NoB := by
    intro W g hb
    refine told_calls W g 1 1 [u] rfl (fun j y hy => ?_) hb.lt (Nat.le_refl _) (by omega) (by rw [hf]; omega) (by rw [hf]; exact hs)
    rw [show (⟨g, 0 + j, none⟩ : Addr) = ⟨g, j, none⟩ from by rw [Nat.zero_add], hb.cell]
    match j, hy with
    | 0, hy => obtain rfl := Option.some.inj hy; rfl
    | j + 1, hy => cases hy
  have HT := Lib.hid hT
  clear hT hf hs
  go_enter Tryd.func12, Tryd.ntmps12
  go_wp2_with fail
  refine (HT.out _ _ (Blk.new w _ _)).mono ?_
  rintro en w1 ⟨rfl, hk⟩
  have HK := Lib.hid (((Kept.refl w NoB).alloc _).trans' hk)
  clear hk
  go_wp2_with fail
  go_ret
  exact ⟨rfl, HK.out⟩
end Go.Proofs.YthnebhnlkjkcmaaDoor
