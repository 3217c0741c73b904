/- What is told of a challenge. -/
import Derived.Test.YthnebhnlkjkcmaaDoorTold
import Derived.Test.YthnebhnlkjkcmaaDoorB64T5
import Derived.Test.YthnebhnlkjkcmaaDoorHmT5
import Derived.Test.YthnebhnlkjkcmaaDoorAuH
set_option linter.unusedVariables false
set_option linter.unusedSimpArgs false
namespace Go.Proofs.YthnebhnlkjkcmaaDoor
open Go.RowKit Go.Shelf Go.Lib

/-- What answers a challenge. -/
def cramL (u p c : List UInt8) : Option (List UInt8) := (takeF c).map fun b => put64 (u ++ 32 :: hexL (hmacP p b))
theorem takeF_len {c b : List UInt8} (h : takeF c = some b) : b.length ≤ c.length := by
  have h1 := congrArg List.length (takeF_put h)
  rw [put64_size _ b (Nat.le_refl _)] at h1
  omega
set_option maxHeartbeats 4000000 in
set_option maxRecDepth 100000 in
theorem cram_calls (w : World) (u p c : List UInt8) (hu : u.length ≤ 1000) (hp : p.length ≤ 1000) (hc : c.length ≤ 1000) {s : ByteArray} (hs : strB c = s) (hC : SinC w) :
    Calls Tryd.prog 13 #[.string (strB u), .string (strB p), .string s] w fun en w' => en = .returned (stR (cramL u p c)) ∧ Kept w w' NoB := by
  have kb := fun (W : World) (s : ByteArray) => Lib.run_convert_string_bytes (P := Tryd.prog) W 9 27 5 s Tryd.underlying9 Tryd.underlying27 Tryd.underlying5
  have ht := take_calls w c s hs (by omega)
  rcases htk : takeF c with _ | b
  · rw [htk] at ht
    have hr : cramL u p c = none := by unfold cramL; rw [htk]; rfl
    rw [hr]
    have HT := Lib.hid ht
    clear ht htk hr hs hC
    go_enter Tryd.func13, Tryd.ntmps13
    go_wp2_with fail
    refine HT.out.mono ?_
    rintro en w1 ⟨v, rfl, hv, hk⟩
    have HK := Lib.hid hk
    simp only [Option.isSome_none, Option.getD_none] at hv ⊢
    clear hk hv HT
    go_wp2_with fail
    go_ret2
    exact ⟨rfl, HK.out⟩
  · rw [htk] at ht
    have hbl := takeF_len htk
    have hr : cramL u p c = some (put64 (u ++ 32 :: hexL (hmacP p b))) := by unfold cramL; rw [htk]; rfl
    rw [hr]
    have hhl : (hexL (hmacP p b)).length = 32 := by rw [hexL_len, hmac_len]
    obtain ⟨X, hX⟩ : ∃ X, hexL (hmacP p b) = X := ⟨_, rfl⟩
    rw [hX] at hhl ⊢
    have hf : [u, [32], X].flatten = u ++ 32 :: X := by simp
    obtain ⟨R, hR⟩ : ∃ R, strB (put64 (u ++ 32 :: X)) = R := ⟨_, rfl⟩
    have hT : ∀ W g, Blk W g 9 #[.string (strB u), .string (strB [32]), .string (strB X)] → Calls Tryd.prog 24 #[.slice (some ⟨g, 0, none⟩) 3 3] W fun en w' => en = .returned (.string R) ∧ Kept W w' NoB := by
      intro W g hb
      refine told_calls W g 3 3 [u, [32], X] rfl (fun j y hy => ?_) hb.lt (Nat.le_refl _) (by omega) (by rw [hf]; simp; omega) (by rw [hf]; exact hR)
      rw [show (⟨g, 0 + j, none⟩ : Addr) = ⟨g, j, none⟩ from by rw [Nat.zero_add], hb.cell]
      match j, hy with
      | 0, hy => obtain rfl := Option.some.inj hy; rfl
      | 1, hy => obtain rfl := Option.some.inj hy; rfl
      | 2, hy => obtain rfl := Option.some.inj hy; rfl
      | j + 3, hy => cases hy
    have HT := Lib.hid hT
    have HX := Lib.hid hX
    have HRR := Lib.hid hR
    have HTK := Lib.hid ht
    clear hT hX hR ht htk hr hf hs
    go_enter Tryd.func13, Tryd.ntmps13
    go_wp2_with fail
    refine HTK.out.mono ?_
    rintro en w1 ⟨v, rfl, hv, hk⟩
    have HK := Lib.hid hk
    simp only [Option.isSome_some, Option.getD_some] at hv ⊢
    obtain ⟨A, cc, rfl, hcc, hra⟩ := hv.readsN (n := b.length) (b8s_length b)
    have hrp := Reads.bytesW w1 5 (strB p)
    rw [strB_size, strB_toList] at hrp
    have hkb : Kept w1 (Lib.bytesWorld w1 5 (strB p)) NoB := (Kept.refl _ _).bytesW _ _
    have hh := hhex_calls (Lib.bytesWorld w1 5 (strB p)) _ _ _ p.length (grownCap w1 p.length 0 5) p A b.length cc b hrp (by omega) (grownCap_ge _ _ _ _) (grownCap_le_maxLen _ _ _ _ (by unfold maxLen; omega)) (hra.kept0 hkb) (by omega) ((hC.kept0 hk).kept0 hkb)
    rw [HX.out] at hh
    have HH := Lib.hid hh
    have HKB := Lib.hid hkb
    clear hk hv hra hrp hkb hh hC HTK
    go_wp2_with fail
    refine HH.out.mono ?_
    rintro en w2 ⟨rfl, hk⟩
    have HK2 := Lib.hid ((HK.out.trans' HKB.out).trans' hk)
    clear hk HH HKB
    go_wp2_with fail
    refine (HT.out _ _ (Blk.new w2 _ _)).mono ?_
    rintro en w3 ⟨rfl, hk⟩
    have HK3 := Lib.hid ((HK2.out.alloc _).trans' hk)
    clear hk
    go_wp2_with fail
    go_ret2
    exact ⟨by rw [← HRR.out]; rfl, HK3.out⟩
end Go.Proofs.YthnebhnlkjkcmaaDoor
