/- Who one is: the reference's answers. -/
import Derived.Test.YthnebhnlkjkcmaaDoorCram
import Derived.Test.YthnebhnlkjkcmaaDoorB64U5
set_option linter.unusedVariables false
set_option linter.unusedSimpArgs false
namespace Go.Proofs.YthnebhnlkjkcmaaDoor
open Go.RowKit Go.Shelf Go.Lib

set_option maxHeartbeats 4000000 in
set_option maxRecDepth 100000 in
theorem refApop_calls (w : World) (s p : List UInt8) (hs : s.length ≤ 1000) (hp : p.length ≤ 1000) :
    Calls Tryd.prog 20 #[.string (strB s), .string (strB p)] w fun en w' => en = .returned (.string (strB (hexL (md5P (s ++ p))))) ∧ Kept w w' NoB := by
  have kb := fun (W : World) (s : ByteArray) => Lib.run_convert_string_bytes (P := Tryd.prog) W 9 27 5 s Tryd.underlying9 Tryd.underlying27 Tryd.underlying5
  have e1 := au_app s p
  have hlen : (s ++ p).length ≤ 2000 := by rw [List.length_append]; omega
  obtain ⟨F, hF⟩ : ∃ F, s ++ p = F := ⟨_, rfl⟩
  rw [hF] at e1 hlen ⊢
  have hl := au_len F
  obtain ⟨M, hM⟩ : ∃ M, md5P F = M := ⟨_, rfl⟩
  rw [hM] at hl
  obtain ⟨r0, r1, r2, r3, r4, r5, r6, r7, r8, r9, r10, r11, r12, r13, r14, r15, hre⟩ := list16 M hl
  have hv : v16 M = .agg #[.int .u8 (r0.toNat : Int), .int .u8 (r1.toNat : Int), .int .u8 (r2.toNat : Int), .int .u8 (r3.toNat : Int), .int .u8 (r4.toNat : Int), .int .u8 (r5.toNat : Int), .int .u8 (r6.toNat : Int), .int .u8 (r7.toNat : Int), .int .u8 (r8.toNat : Int), .int .u8 (r9.toNat : Int), .int .u8 (r10.toNat : Int), .int .u8 (r11.toNat : Int), .int .u8 (r12.toNat : Int), .int .u8 (r13.toNat : Int), .int .u8 (r14.toNat : Int), .int .u8 (r15.toNat : Int)] := by rw [hre]; rfl
  have hrb := Reads.bytesW w 5 (strB F)
  rw [strB_size, strB_toList] at hrb
  have hkb : Kept w (Lib.bytesWorld w 5 (strB F)) NoB := (Kept.refl _ _).bytesW _ _
  have hsm := refSum_calls (Lib.bytesWorld w 5 (strB F)) _ _ _ (grownCap w F.length 0 5) F hrb (by omega)
  rw [hM, hv] at hsm
  have HM := Lib.hid hM
  have HL := Lib.hid hl
  have HRE := Lib.hid hre
  have HS := Lib.hid hsm
  have HK := Lib.hid hkb
  clear hF hl hM hre hv hrb hkb hsm
  go_enter Tryd.func20, Tryd.ntmps20
  go_wp2_with fail
  refine HS.out.mono ?_
  rintro en w1 ⟨rfl, hk⟩
  have HK1 := Lib.hid (HK.out.trans' hk)
  clear hk HS HK e1
  go_upto_region 2 with (fail)
  have HK2 := Lib.hid (HK1.out.alloc (.cells #[.int .u8 (r0.toNat : Int), .int .u8 (r1.toNat : Int), .int .u8 (r2.toNat : Int), .int .u8 (r3.toNat : Int), .int .u8 (r4.toNat : Int), .int .u8 (r5.toNat : Int), .int .u8 (r6.toNat : Int), .int .u8 (r7.toNat : Int), .int .u8 (r8.toNat : Int), .int .u8 (r9.toNat : Int), .int .u8 (r10.toNat : Int), .int .u8 (r11.toNat : Int), .int .u8 (r12.toNat : Int), .int .u8 (r13.toNat : Int), .int .u8 (r14.toNat : Int), .int .u8 (r15.toNat : Int)] 48))
  have hb2 := Blk.new w1 48 #[.int .u8 (r0.toNat : Int), .int .u8 (r1.toNat : Int), .int .u8 (r2.toNat : Int), .int .u8 (r3.toNat : Int), .int .u8 (r4.toNat : Int), .int .u8 (r5.toNat : Int), .int .u8 (r6.toNat : Int), .int .u8 (r7.toNat : Int), .int .u8 (r8.toNat : Int), .int .u8 (r9.toNat : Int), .int .u8 (r10.toNat : Int), .int .u8 (r11.toNat : Int), .int .u8 (r12.toNat : Int), .int .u8 (r13.toNat : Int), .int .u8 (r14.toNat : Int), .int .u8 (r15.toNat : Int)]
  have e2 : (#[.int .u8 (r0.toNat : Int), .int .u8 (r1.toNat : Int), .int .u8 (r2.toNat : Int), .int .u8 (r3.toNat : Int), .int .u8 (r4.toNat : Int), .int .u8 (r5.toNat : Int), .int .u8 (r6.toNat : Int), .int .u8 (r7.toNat : Int), .int .u8 (r8.toNat : Int), .int .u8 (r9.toNat : Int), .int .u8 (r10.toNat : Int), .int .u8 (r11.toNat : Int), .int .u8 (r12.toNat : Int), .int .u8 (r13.toNat : Int), .int .u8 (r14.toNat : Int), .int .u8 (r15.toNat : Int)] : Array Value) = (b8s M).toArray := by rw [HRE.out]; rfl
  generalize w1.alloc (.cells #[.int .u8 (r0.toNat : Int), .int .u8 (r1.toNat : Int), .int .u8 (r2.toNat : Int), .int .u8 (r3.toNat : Int), .int .u8 (r4.toNat : Int), .int .u8 (r5.toNat : Int), .int .u8 (r6.toNat : Int), .int .u8 (r7.toNat : Int), .int .u8 (r8.toNat : Int), .int .u8 (r9.toNat : Int), .int .u8 (r10.toNat : Int), .int .u8 (r11.toNat : Int), .int .u8 (r12.toNat : Int), .int .u8 (r13.toNat : Int), .int .u8 (r14.toNat : Int), .int .u8 (r15.toNat : Int)] 48) = W2 at *
  rw [e2] at hb2
  have HRD := Lib.hid (au_reads hb2 16 HL.out)
  clear hb2 e2 kb
  go_wp2_with fail
  refine (refHex_calls W2 _ _ 16 16 M HRD.out (by omega)).mono ?_
  rintro en w3 ⟨rfl, hk⟩
  have HK3 := Lib.hid (HK2.out.trans' hk)
  clear hk
  go_wp2_with fail
  go_ret
  exact ⟨by rw [HM.out]; rfl, HK3.out⟩
set_option maxHeartbeats 2000000 in
set_option maxRecDepth 100000 in
theorem refPlainA_calls (w : World) (u p : List UInt8) (hu : u.length ≤ 1000) (hp : p.length ≤ 1000) :
    Calls Tryd.prog 17 #[.string (strB u), .string (strB p)] w fun en w' => en = .returned (.string (strB (put64 (0 :: (u ++ 0 :: p))))) ∧ Kept w w' NoB := by
  have kb := fun (W : World) (s : ByteArray) => Lib.run_convert_string_bytes (P := Tryd.prog) W 9 27 5 s Tryd.underlying9 Tryd.underlying27 Tryd.underlying5
  obtain ⟨F, hF⟩ : ∃ F, 0 :: (u ++ 0 :: p) = F := ⟨_, rfl⟩
  have hFl : F.length ≤ 2002 := by rw [← hF]; simp; omega
  rw [hF]
  have hP : ∀ W, Calls Tryd.prog 29 #[.slice (some ⟨W.heap.size, 0, none⟩) F.length (grownCap W F.length 0 5)] (Lib.bytesWorld W 5 (strB F)) fun en w' => en = .returned (.string (strB (put64 F))) ∧ Kept (Lib.bytesWorld W 5 (strB F)) w' NoB := by
    intro W
    have hrb := Reads.bytesW W 5 (strB F)
    rw [strB_size, strB_toList] at hrb
    exact refPut_calls _ _ _ _ _ F hrb (by omega) (grownCap_ge _ _ _ _)
  have HP := Lib.hid hP
  have k1 : (⟨#[0]⟩ : ByteArray) ++ strB u = strB (0 :: u) := au_app [0] u
  have k2 : strB (0 :: u) ++ (⟨#[0]⟩ : ByteArray) = strB ((0 :: u) ++ [0]) := au_app _ [0]
  have k3 : strB ((0 :: u) ++ [0]) ++ strB p = strB F := by rw [au_app, ← hF]; simp
  obtain ⟨Y1, hY1⟩ : ∃ Y, 0 :: u = Y := ⟨_, rfl⟩
  rw [hY1] at k1 k2 k3
  obtain ⟨Y2, hY2⟩ : ∃ Y, Y1 ++ [0] = Y := ⟨_, rfl⟩
  rw [hY2] at k2 k3
  have y1 : Y1.length ≤ 1001 := by rw [← hY1]; simp; omega
  have y2 : Y2.length ≤ 1002 := by rw [← hY2, ← hY1]; simp; omega
  clear hP hF hY1 hY2
  go_enter Tryd.func17, Tryd.ntmps17
  go_wp2_with fail
  refine (HP.out _).mono ?_
  rintro en w2 ⟨rfl, hk⟩
  have HK2 := Lib.hid (((Kept.refl w NoB).bytesW _ _).trans' hk)
  clear hk
  go_wp2_with fail
  go_ret
  exact ⟨rfl, HK2.out⟩
set_option maxHeartbeats 2000000 in
set_option maxRecDepth 100000 in
theorem refLoginA_calls (w : World) (F : List UInt8) (hFl : F.length ≤ 1000) :
    Calls Tryd.prog 18 #[.string (strB F)] w fun en w' => en = .returned (.string (strB (put64 F))) ∧ Kept w w' NoB := by
  have kb := fun (W : World) (s : ByteArray) => Lib.run_convert_string_bytes (P := Tryd.prog) W 9 27 5 s Tryd.underlying9 Tryd.underlying27 Tryd.underlying5
  have hP : ∀ W, Calls Tryd.prog 29 #[.slice (some ⟨W.heap.size, 0, none⟩) F.length (grownCap W F.length 0 5)] (Lib.bytesWorld W 5 (strB F)) fun en w' => en = .returned (.string (strB (put64 F))) ∧ Kept (Lib.bytesWorld W 5 (strB F)) w' NoB := by
    intro W
    have hrb := Reads.bytesW W 5 (strB F)
    rw [strB_size, strB_toList] at hrb
    exact refPut_calls _ _ _ _ _ F hrb (by omega) (grownCap_ge _ _ _ _)
  have HP := Lib.hid hP
  clear hP
  go_enter Tryd.func18, Tryd.ntmps18
  go_wp2_with fail
  refine (HP.out _).mono ?_
  rintro en w2 ⟨rfl, hk⟩
  have HK2 := Lib.hid (((Kept.refl w NoB).bytesW _ _).trans' hk)
  clear hk
  go_wp2_with fail
  go_ret
  exact ⟨rfl, HK2.out⟩
set_option maxHeartbeats 4000000 in
set_option maxRecDepth 100000 in
theorem refCram_calls (w : World) (u p c : List UInt8) (hu : u.length ≤ 1000) (hp : p.length ≤ 1000) (hc : c.length ≤ 1000) {s : ByteArray} (hs : strB c = s) :
    Calls Tryd.prog 15 #[.string (strB u), .string (strB p), .string s] w fun en w' => en = .returned (stR (cramL u p c)) ∧ Kept w w' NoB := by
  have kb := fun (W : World) (s : ByteArray) => Lib.run_convert_string_bytes (P := Tryd.prog) W 9 27 5 s Tryd.underlying9 Tryd.underlying27 Tryd.underlying5
  have ht := refTake_calls w c s hs (by omega)
  rw [← takeF_eq] at ht
  rcases htk : takeF c with _ | b
  · rw [htk] at ht
    have hr : cramL u p c = none := by unfold cramL; rw [htk]; rfl
    rw [hr]
    have HT := Lib.hid ht
    clear ht htk hr hs
    go_enter Tryd.func15, Tryd.ntmps15
    go_wp2_with fail
    refine HT.out.mono ?_
    rintro en w1 ⟨v, rfl, hv, hk⟩
    have HK := Lib.hid hk
    simp only [Option.isSome_none, Option.getD_none] at hv ⊢
    clear hk hv HT
    go_wp2_with fail
    go_ret2
    exact ⟨rfl, HK.out⟩
  · rw [htk] at ht
    have hbl := takeF_len htk
    have hr : cramL u p c = some (put64 (u ++ 32 :: hexL (hmacP p b))) := by unfold cramL; rw [htk]; rfl
    rw [hr]
    have hhl : (hexL (hmacP p b)).length = 32 := by rw [hexL_len, hmac_len]
    obtain ⟨X, hX⟩ : ∃ X, hexL (hmacP p b) = X := ⟨_, rfl⟩
    rw [hX] at hhl ⊢
    obtain ⟨F, hF⟩ : ∃ F, u ++ 32 :: X = F := ⟨_, rfl⟩
    have hFl : F.length ≤ 1033 := by rw [← hF]; simp; omega
    rw [hF]
    have hP : ∀ W, Calls Tryd.prog 29 #[.slice (some ⟨W.heap.size, 0, none⟩) F.length (grownCap W F.length 0 5)] (Lib.bytesWorld W 5 (strB F)) fun en w' => en = .returned (.string (strB (put64 F))) ∧ Kept (Lib.bytesWorld W 5 (strB F)) w' NoB := by
      intro W
      have hrb := Reads.bytesW W 5 (strB F)
      rw [strB_size, strB_toList] at hrb
      exact refPut_calls _ _ _ _ _ F hrb (by omega) (grownCap_ge _ _ _ _)
    have HP := Lib.hid hP
    have k1 : strB u ++ (⟨#[32]⟩ : ByteArray) = strB (u ++ [32]) := au_app u [32]
    have k2 : strB (u ++ [32]) ++ strB X = strB F := by rw [au_app, ← hF]; simp
    obtain ⟨Y1, hY1⟩ : ∃ Y, u ++ [32] = Y := ⟨_, rfl⟩
    rw [hY1] at k1 k2
    have y1 : Y1.length ≤ 1001 := by rw [← hY1]; simp; omega
    have HX := Lib.hid hX
    have HTK := Lib.hid ht
    clear hX ht htk hr hs hP hF hY1
    go_enter Tryd.func15, Tryd.ntmps15
    go_wp2_with fail
    refine HTK.out.mono ?_
    rintro en w1 ⟨v, rfl, hv, hk⟩
    have HK := Lib.hid hk
    simp only [Option.isSome_some, Option.getD_some] at hv ⊢
    obtain ⟨A, cc, rfl, hcc, hra⟩ := hv.readsN (n := b.length) (b8s_length b)
    have hrp := Reads.bytesW w1 5 (strB p)
    rw [strB_size, strB_toList] at hrp
    have hkb : Kept w1 (Lib.bytesWorld w1 5 (strB p)) NoB := (Kept.refl _ _).bytesW _ _
    have hh := refHhex_calls (Lib.bytesWorld w1 5 (strB p)) _ _ _ p.length (grownCap w1 p.length 0 5) p A b.length cc b hrp (by omega) (hra.kept0 hkb) (by omega)
    rw [HX.out] at hh
    have HH := Lib.hid hh
    have HKB := Lib.hid hkb
    clear hk hv hra hrp hkb hh HTK
    go_wp2_with fail
    refine HH.out.mono ?_
    rintro en w2 ⟨rfl, hk⟩
    have HK2 := Lib.hid ((HK.out.trans' HKB.out).trans' hk)
    clear hk HH HKB
    go_wp2_with fail
    refine (HP.out _).mono ?_
    rintro en w3 ⟨rfl, hk⟩
    have HK3 := Lib.hid ((HK2.out.bytesW _ _).trans' hk)
    clear hk
    go_wp2_with fail
    go_ret2
    exact ⟨rfl, HK3.out⟩
end Go.Proofs.YthnebhnlkjkcmaaDoor
