/- B64All's walk. -/
import Derived.Test.YtllhnedfeballaaDoorB64U
set_option linter.unusedVariables false
set_option linter.unusedSimpArgs false
namespace Go.Proofs.YtllhnedfeballaaDoor
open Go.RowKit

set_option maxHeartbeats 4000000 in
set_option maxRecDepth 100000 in
theorem all_calls (w : World) (A : Option Addr) (n c : Nat) (l : List UInt8) (hr : Reads w (fun k => k < w.heap.size) A n (b8s l)) (hc : n ≤ c) (s : ByteArray) (hs : s.size ≤ 140737488351232) :
    Calls Tryd.prog 3 #[.slice A n c, .string s] w fun en w' => en = .returned (.bool true) ∧ Kept w w' NoB := by
  have kb := fun (W : World) (s : ByteArray) => Lib.run_convert_string_bytes (P := Tryd.prog) W 9 22 5 s Tryd.underlying9 Tryd.underlying22 Tryd.underlying5
  obtain ⟨lt, hlt⟩ : ∃ lt, s.data.toList.take 600 = lt := ⟨_, rfl⟩
  have hlt6 : lt.length ≤ 600 := by rw [← hlt, List.length_take]; omega
  obtain ⟨r, htf⟩ : ∃ r, takeF lt = r := ⟨_, rfl⟩
  have htr : takeR lt = r := by rw [← takeF_eq, htf]
  obtain ⟨la, hla⟩ : ∃ la, l.take 600 = la := ⟨_, rfl⟩
  have hla6 : la.length ≤ 600 := by rw [← hla, List.length_take]; omega
  obtain ⟨sa, hsa⟩ : ∃ sa, strB (put64 la) = sa := ⟨_, rfl⟩
  have HLT := Lib.hid hlt
  have HTF := Lib.hid htf
  have HTR := Lib.hid htr
  have HLA := Lib.hid hla
  have HSA := Lib.hid hsa
  have HR := Lib.hid hr
  clear hlt htf htr hla hsa hr
  obtain ⟨st, hst⟩ : ∃ st, strB lt = st := ⟨_, rfl⟩
  have HST := Lib.hid hst
  clear hst
  have hro : ∀ out, r = some out → out.length ≤ 1099511627776 := by
    intro out ho
    have h := takeF_put (HTF.out.trans ho)
    obtain ⟨ls, h1, h2, h3⟩ := put64_parts _ out (Nat.le_refl _)
    have h4 := put64_size _ out (Nat.le_refl _)
    rw [h] at h4
    omega
  go_enter Tryd.func3, Tryd.ntmps3
  go_wp2_with fail
  refine (shown_calls _).mono ?_
  rintro en w1 ⟨rfl, hk1⟩
  have HK1 := Lib.hid hk1
  clear hk1
  go_wp2_with fail
  have hrb := Reads.bytesW w1 5 s
  have hkb : Kept w1 (Lib.bytesWorld w1 5 s) NoB := (Kept.refl _ _).bytesW _ _
  refine (short_calls _ _ _ _ _ _ hrb (grownCap_ge _ _ _ _)).mono ?_
  rintro en w2 ⟨B, m, d, rfl, rfl, hmd, hm, hrB⟩
  rw [HLT.out] at hrB
  have HK2 := Lib.hid (HK1.out.trans' hkb)
  have hcv := hrB.string 22 5 9 Tryd.underlying22 Tryd.underlying5 Tryd.underlying9 d
  rw [HST.out] at hcv
  clear hrb hkb hrB
  go_wp2_with fail
  refine (take_calls _ lt st HST.out (by omega)).mono ?_
  rw [HTF.out]
  rintro en w3 ⟨v, rfl, hv, hk3⟩
  have HK3 := Lib.hid (HK2.out.trans' hk3)
  clear hk3 hcv
  rcases r with _ | out
  · simp only [Option.isSome_none, Option.getD_none] at hv ⊢
    obtain ⟨XA, xc, hxv, hxc, hxr⟩ := hv.readsN (n := 0) rfl
    subst hxv
    have HX := Lib.hid (hxr.mono (T := fun _ => True) fun _ _ _ => trivial)
    clear hxr hv
    go_wp2_with fail
    refine (refTake_calls _ lt st HST.out (by omega)).mono ?_
    rw [HTR.out]
    rintro en w4 ⟨v', rfl, hv', hk4⟩
    have HK4 := Lib.hid (HK3.out.trans' hk4)
    have HX4 := Lib.hid (HX.out.kept0 hk4)
    obtain ⟨YA, yc, hyv, hyc, hyr⟩ := hv'.readsN (n := 0) rfl
    subst hyv
    have HY4 := Lib.hid (hyr.mono (T := fun _ => True) fun _ _ _ => trivial)
    clear hk4 hyr hv'
    go_wp2_with fail
    refine (short_calls _ _ A n c l (HR.out.kept0 HK4.out) hc).mono ?_
    rintro en w5 ⟨B1, m1, d1, rfl, rfl, hmd1, hm1, hrB1⟩
    rw [HLA.out] at hrB1
    have HB1 := Lib.hid hrB1
    clear hrB1
    go_wp2_with fail
    refine (put64_any (w1 := w5) HB1.out (by omega) hmd1 HSA.out).mono ?_
    rintro en w6 ⟨rfl, hk6⟩
    have HK6 := Lib.hid (HK4.out.trans' hk6)
    have HX6 := Lib.hid (HX4.out.kept0 hk6)
    have HY6 := Lib.hid (HY4.out.kept0 hk6)
    clear hk6
    go_wp2_with fail
    refine (short_calls _ _ A n c l (HR.out.kept0 HK6.out) hc).mono ?_
    rintro en w7 ⟨B2, m2, d2, rfl, rfl, hmd2, hm2, hrB2⟩
    rw [HLA.out] at hrB2
    have HB2 := Lib.hid hrB2
    clear hrB2
    go_wp2_with fail
    refine (refPut_calls w7 _ B2 m2 d2 la HB2.out (by omega) hmd2).mono ?_
    rw [HSA.out]
    rintro en w8 ⟨rfl, hk8⟩
    have hcx := (HX6.out.kept0 hk8).string 22 5 9 Tryd.underlying22 Tryd.underlying5 Tryd.underlying9 xc
    have hcy := (HY6.out.kept0 hk8).string 22 5 9 Tryd.underlying22 Tryd.underlying5 Tryd.underlying9 yc
    have HK8 := Lib.hid (HK6.out.trans' hk8)
    clear hk8
    go_wp2_with fail
    go_ret
    exact ⟨rfl, HK8.out⟩
  · simp only [Option.isSome_some, Option.getD_some] at hv ⊢
    have ho40 := hro out rfl
    obtain ⟨XA, xc, hxv, hxc, hxr⟩ := hv.readsN (n := out.length) (b8s_length out)
    subst hxv
    have HX := Lib.hid (hxr.mono (T := fun _ => True) fun _ _ _ => trivial)
    clear hxr hv
    go_wp2_with fail
    refine (refTake_calls _ lt st HST.out (by omega)).mono ?_
    rw [HTR.out]
    rintro en w4 ⟨v', rfl, hv', hk4⟩
    have HK4 := Lib.hid (HK3.out.trans' hk4)
    have HX4 := Lib.hid (HX.out.kept0 hk4)
    obtain ⟨YA, yc, hyv, hyc, hyr⟩ := hv'.readsN (n := out.length) (b8s_length out)
    subst hyv
    have HY4 := Lib.hid (hyr.mono (T := fun _ => True) fun _ _ _ => trivial)
    clear hk4 hyr hv'
    go_wp2_with fail
    refine (short_calls _ _ A n c l (HR.out.kept0 HK4.out) hc).mono ?_
    rintro en w5 ⟨B1, m1, d1, rfl, rfl, hmd1, hm1, hrB1⟩
    rw [HLA.out] at hrB1
    have HB1 := Lib.hid hrB1
    clear hrB1
    go_wp2_with fail
    refine (put64_any (w1 := w5) HB1.out (by omega) hmd1 HSA.out).mono ?_
    rintro en w6 ⟨rfl, hk6⟩
    have HK6 := Lib.hid (HK4.out.trans' hk6)
    have HX6 := Lib.hid (HX4.out.kept0 hk6)
    have HY6 := Lib.hid (HY4.out.kept0 hk6)
    clear hk6
    go_wp2_with fail
    refine (short_calls _ _ A n c l (HR.out.kept0 HK6.out) hc).mono ?_
    rintro en w7 ⟨B2, m2, d2, rfl, rfl, hmd2, hm2, hrB2⟩
    rw [HLA.out] at hrB2
    have HB2 := Lib.hid hrB2
    clear hrB2
    go_wp2_with fail
    refine (refPut_calls w7 _ B2 m2 d2 la HB2.out (by omega) hmd2).mono ?_
    rw [HSA.out]
    rintro en w8 ⟨rfl, hk8⟩
    have hcx := (HX6.out.kept0 hk8).string 22 5 9 Tryd.underlying22 Tryd.underlying5 Tryd.underlying9 xc
    have hcy := (HY6.out.kept0 hk8).string 22 5 9 Tryd.underlying22 Tryd.underlying5 Tryd.underlying9 yc
    have HK8 := Lib.hid (HK6.out.trans' hk8)
    clear hk8
    go_wp2_with fail
    go_ret
    exact ⟨rfl, HK8.out⟩

theorem b64All_walk (W : World) (a0 : Option Addr) (len0 cap0 : Nat) (z0 : List Int) (a1 : ByteArray) (w0 : IsRow .u8 W a0 len0 cap0 z0) (_y0 : len0 * 1 ≤ 140737488351232) (w1 : a1.size ≤ 140737488351232) :
    Calls Tryd.prog 3 #[.slice a0 len0 cap0, .string a1] W fun en w' => en = .returned (.bool true) ∧ Below W.heap.size W w' :=
  (all_calls W a0 len0 cap0 _ w0.bytes_.2.1 w0.bytes_.2.2 a1 w1).mono fun _ _ ⟨he, hk⟩ => ⟨he, hk.below⟩
end Go.Proofs.YtllhnedfeballaaDoor
