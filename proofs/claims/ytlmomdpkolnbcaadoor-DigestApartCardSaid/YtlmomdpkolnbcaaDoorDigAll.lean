/- DigestAll's walk. (Printed by gen_digall.py.) -/
import Derived.Test.YtlmomdpkolnbcaaDoorDigKnown
import Derived.Test.YtlmomdpkolnbcaaDoorDref3
import Derived.Test.YtlmomdpkolnbcaaDoorDref4
set_option linter.unusedVariables false
set_option linter.unusedSimpArgs false
namespace Go.Proofs.YtlmomdpkolnbcaaDoor
open Go.RowKit Go.Shelf Go.Lib

theorem strB_beqI (x : List UInt8) : (strB x == strB x) = true := by rw [strB_beq]; exact decide_eq_true rfl
set_option maxHeartbeats 8000000 in
set_option maxRecDepth 100000 in
theorem all_law (w : World) (A : Option Addr) (n c : Nat) (l0 : List UInt8) (hR : Reads w (fun k => k < w.heap.size) A n (b8s l0)) (hnc : n ≤ c) (hcb : c ≤ 9223372036854775807) (t0 : List UInt8) (ht0 : t0.length ≤ 140737488351232) (hC : SinC w) :
    Calls Tryd.prog 5 #[.slice A n c, .string (strB t0)] w fun en w' => en = .returned (.bool true) ∧ Below w.heap.size w w' := by
  obtain ⟨l, hl⟩ : ∃ l, l0.take 600 = l := ⟨_, rfl⟩
  obtain ⟨t, ht⟩ : ∃ t, t0.take 600 = t := ⟨_, rfl⟩
  have htl : t.length ≤ 600 := by rw [← ht, List.length_take]; omega
  have hlM := md5_len l
  obtain ⟨M, hM⟩ : ∃ M, md5P l = M := ⟨_, rfl⟩
  rw [hM] at hlM
  have heq : ∀ W : World, (Op.equalIn 10000 25 (v16 M) (v16 M)).run Tryd.prog W = .ok true W := fun W => by
    rw [eq16 W M M hlM hlM]
    simp
  obtain ⟨V, hV⟩ : ∃ V, v16 M = V := ⟨_, rfl⟩
  have hagg : ∃ C, V = .agg C := ⟨_, hV.symm⟩
  rw [hV] at heq
  obtain ⟨C, rfl⟩ := hagg
  obtain ⟨st, hst⟩ : ∃ st, strB t = st := ⟨_, rfl⟩
  have HST := Lib.hid hst
  have HEQ := Lib.hid heq
  have HM := Lib.hid hM
  have HV := Lib.hid hV
  have HL := Lib.hid hl
  have HT := Lib.hid ht
  have HR := Lib.hid hR
  have HC := Lib.hid hC
  have hxs := strB_beqI (hexL l)
  have hxr := strB_beqI ((unH t).getD [])
  have HXS := Lib.hid hxs
  have HXR := Lib.hid hxr
  clear heq hM hV hl ht hR hC hxs hxr hst hlM
  obtain ⟨r, hr⟩ : ∃ r, unH t = r := ⟨_, rfl⟩
  have HRR := Lib.hid hr
  rw [hr] at HXR
  clear hr
  have kb := fun (W : World) (s : ByteArray) => Lib.run_convert_string_bytes (P := Tryd.prog) W 9 22 5 s Tryd.underlying9 Tryd.underlying22 Tryd.underlying5
  go_enter Tryd.func5, Tryd.ntmps5
  go_wp2_with fail
  refine (shown_calls w HC.out).mono ?_
  rintro en w1 ⟨rfl, hk⟩
  have HK1 := Lib.hid hk
  clear hk
  go_wp2_with fail
  refine (short_calls w1 _ A n c l0 (HR.out.kept0 HK1.out) hnc).mono ?_
  rintro en w1' ⟨m, rfl, rfl, hmc, hm6, hrd⟩
  rw [HL.out] at hrd
  have HRD := Lib.hid hrd
  clear hrd
  go_wp2_with fail
  have hrb := Reads.bytesW w1' 5 (strB t0)
  rw [strB_size, strB_toList] at hrb
  have hkb : Kept w1' (Lib.bytesWorld w1' 5 (strB t0)) NoB := (Kept.refl _ _).bytesW _ _
  refine (short_calls _ _ _ _ _ _ hrb (grownCap_ge _ _ _ _)).mono ?_
  rintro en w2 ⟨m2, rfl, rfl, hmc2, hm62, hrd2⟩
  rw [HT.out] at hrd2
  have hcv := fun cc => hrd2.string (P := Tryd.prog) 22 5 9 Tryd.underlying22 Tryd.underlying5 Tryd.underlying9 cc
  simp only [HST.out] at hcv
  have HK2 := Lib.hid (HK1.out.trans' hkb)
  have HRD2 := Lib.hid (HRD.out.kept0 hkb)
  clear hrb hkb hrd2
  generalize Lib.bytesWorld w1' 5 (strB t0) = W2 at hcv HK2 HRD2 ⊢
  go_wp2_with fail
  have hu := unhexAny_calls W2 t (by omega)
  rw [HST.out] at hu
  refine hu.mono ?_
  rintro en w3 ⟨XA, xn, xc, rfl, hk3, hxc, hxm, hxr⟩
  have hu2 := refUnhex_calls w3 t (by omega)
  rw [HST.out] at hu2
  rw [HRR.out] at hxr ⊢
  have HXD := Lib.hid hxr
  have HK3 := Lib.hid (HK2.out.trans' hk3)
  have HRD3 := Lib.hid (HRD2.out.kept0 hk3)
  clear hcv hu hk3 hxr
  go_wp2_with fail
  refine hu2.mono ?_
  rintro en w4 ⟨YA, yn, yc, rfl, hk4, hyc, hym, hyr⟩
  rw [HRR.out] at hyr ⊢
  have HYD := Lib.hid hyr
  have HXD4 := Lib.hid (HXD.out.kept0 hk4)
  have HK4 := Lib.hid (HK3.out.trans' hk4)
  have HRD4 := Lib.hid (HRD3.out.kept0 hk4)
  clear hu2 hk4 hyr HXD
  rcases r with _ | out
  · simp only [Option.getD_none] at HXD4 HYD HXR
    have hx0 : xn = 0 := by have := HXD4.out.1; simpa [b8s] using this.symm
    subst hx0
    clear hxc
    simp only [Option.isSome_none, Option.isSome_some]
    go_wp2_with fail
    have hs := sum_any w4 _ A m c l HRD4.out hmc (by omega) hcb (HC.out.kept0 HK4.out)
    rw [HM.out, HV.out] at hs
    (with_reducible refine hs.mono ?_)
    rintro en w5 ⟨rfl, hk⟩
    have HK5 := Lib.hid (HK4.out.trans' hk)
    have HRD5 := Lib.hid (HRD4.out.kept0 hk)
    have HX5 := Lib.hid (HXD4.out.kept0 hk)
    have HY5 := Lib.hid (HYD.out.kept0 hk)
    clear hs hk
    go_wp2_with fail
    have hs := refSum_calls w5 _ A m c l HRD5.out (by omega)
    rw [HM.out, HV.out] at hs
    (with_reducible refine hs.mono ?_)
    rintro en w6 ⟨rfl, hk⟩
    have HK6 := Lib.hid (HK5.out.trans' hk)
    have HRD6 := Lib.hid (HRD5.out.kept0 hk)
    have HX6 := Lib.hid (HX5.out.kept0 hk)
    have HY6 := Lib.hid (HY5.out.kept0 hk)
    clear hs hk
    have heq6 := HEQ.out w6
    go_wp2_with fail
    clear heq6
    refine (hex_calls w6 _ A m c l HRD6.out (by omega)).mono ?_
    rintro en w7 ⟨rfl, hk⟩
    have HK7 := Lib.hid (HK6.out.trans' hk)
    have HRD7 := Lib.hid (HRD6.out.kept0 hk)
    have HX7 := Lib.hid (HX6.out.kept0 hk)
    have HY7 := Lib.hid (HY6.out.kept0 hk)
    clear hk
    go_wp2_with fail
    refine (refHex_calls w7 _ A m c l HRD7.out (by omega)).mono ?_
    rintro en w8 ⟨rfl, hk⟩
    have HK8 := Lib.hid (HK7.out.trans' hk)
    have hcx := (HX7.out.kept0 hk).string 22 5 9 Tryd.underlying22 Tryd.underlying5 Tryd.underlying9 xc
    have hcy := (HY7.out.kept0 hk).string 22 5 9 Tryd.underlying22 Tryd.underlying5 Tryd.underlying9 yc
    have hxs := HXS.out
    have hxr := HXR.out
    clear hk
    go_wp2_with fail
    go_ret
    exact ⟨rfl, HK8.out.below⟩
  · simp only [Option.getD_some] at HXD4 HYD HXR
    simp only [Option.isSome_none, Option.isSome_some]
    go_wp2_with fail
    have hs := sum_any w4 _ A m c l HRD4.out hmc (by omega) hcb (HC.out.kept0 HK4.out)
    rw [HM.out, HV.out] at hs
    (with_reducible refine hs.mono ?_)
    rintro en w5 ⟨rfl, hk⟩
    have HK5 := Lib.hid (HK4.out.trans' hk)
    have HRD5 := Lib.hid (HRD4.out.kept0 hk)
    have HX5 := Lib.hid (HXD4.out.kept0 hk)
    have HY5 := Lib.hid (HYD.out.kept0 hk)
    clear hs hk
    go_wp2_with fail
    have hs := refSum_calls w5 _ A m c l HRD5.out (by omega)
    rw [HM.out, HV.out] at hs
    (with_reducible refine hs.mono ?_)
    rintro en w6 ⟨rfl, hk⟩
    have HK6 := Lib.hid (HK5.out.trans' hk)
    have HRD6 := Lib.hid (HRD5.out.kept0 hk)
    have HX6 := Lib.hid (HX5.out.kept0 hk)
    have HY6 := Lib.hid (HY5.out.kept0 hk)
    clear hs hk
    have heq6 := HEQ.out w6
    go_wp2_with fail
    clear heq6
    refine (hex_calls w6 _ A m c l HRD6.out (by omega)).mono ?_
    rintro en w7 ⟨rfl, hk⟩
    have HK7 := Lib.hid (HK6.out.trans' hk)
    have HRD7 := Lib.hid (HRD6.out.kept0 hk)
    have HX7 := Lib.hid (HX6.out.kept0 hk)
    have HY7 := Lib.hid (HY6.out.kept0 hk)
    clear hk
    go_wp2_with fail
    refine (refHex_calls w7 _ A m c l HRD7.out (by omega)).mono ?_
    rintro en w8 ⟨rfl, hk⟩
    have HK8 := Lib.hid (HK7.out.trans' hk)
    have hcx := (HX7.out.kept0 hk).string 22 5 9 Tryd.underlying22 Tryd.underlying5 Tryd.underlying9 xc
    have hcy := (HY7.out.kept0 hk).string 22 5 9 Tryd.underlying22 Tryd.underlying5 Tryd.underlying9 yc
    have hxs := HXS.out
    have hxr := HXR.out
    clear hk
    go_wp2_with fail
    go_ret
    exact ⟨rfl, HK8.out.below⟩
theorem digestAll_walk (W : World) (a0 : Option Addr) (len0 cap0 : Nat) (z0 : List Int) (s1 : ByteArray) (w0 : IsRow .u8 W a0 len0 cap0 z0) (_y0 : len0 * 1 ≤ 140737488351232) (w1 : s1.size ≤ 140737488351232) (hL : laidMetH Tryd.prog Rows.digestAllRow.laid W) (_hsh : W.ShapedOpen Tryd.prog) :
    Calls Tryd.prog 5 #[.slice a0 len0 cap0, .string s1] W fun en w' => en = .returned (.bool true) ∧ Below W.heap.size W w' := by
  have h := all_law W a0 len0 cap0 _ w0.bytes_.2.1 w0.bytes_.2.2 w0.cap_le s1.data.toList (by rw [Array.length_toList]; exact w1) (SinC.of_laid hL)
  rwa [strB_data] at h
end Go.Proofs.YtlmomdpkolnbcaaDoor
