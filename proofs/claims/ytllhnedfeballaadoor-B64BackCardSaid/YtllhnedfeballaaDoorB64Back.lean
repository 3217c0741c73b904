/- B64Back's walk. -/
import Derived.Test.YtllhnedfeballaaDoorB64U
set_option linter.unusedVariables false
set_option linter.unusedSimpArgs false
namespace Go.Proofs.YtllhnedfeballaaDoor
open Go.RowKit

theorem strB_extract (L : List UInt8) (i j : Nat) : (strB L).extract i j = strB ((L.drop i).take (j - i)) := by
  apply ByteArray.ext
  simp [strB, ByteArray.data_extract, List.extract_toArray, List.extract_eq_take_drop]
theorem takeF_more (b : List UInt8) (x : UInt8) : takeF (put64 b ++ [x]) = none := by
  rcases h : takeF (put64 b ++ [x]) with _ | out
  · rfl
  · have h1 := congrArg List.length (takeF_put h)
    rw [List.length_append, put64_size _ out (Nat.le_refl _), put64_size _ b (Nat.le_refl _)] at h1
    simp at h1
    omega
theorem takeF_back_nil : takeF [] = some [] := by have := takeF_back []; rwa [put64_nil] at this
theorem takeF_less (b : List UInt8) (h0 : put64 b ≠ []) : takeF ((put64 b).take ((put64 b).length - 1)) = none := by
  rcases h : takeF ((put64 b).take ((put64 b).length - 1)) with _ | out
  · rfl
  · have h1 := congrArg List.length (takeF_put h)
    have hp : 0 < (put64 b).length := List.length_pos_iff.2 h0
    rw [List.length_take, put64_size _ out (Nat.le_refl _)] at h1
    rw [put64_size _ b (Nat.le_refl _)] at h1 hp
    omega

set_option maxHeartbeats 4000000 in
set_option maxRecDepth 100000 in
theorem back_calls (w : World) (A : Option Addr) (n c : Nat) (l : List UInt8) (hr : Reads w (fun k => k < w.heap.size) A n (b8s l)) (hc : n ≤ c) (at_ x : Nat) (ha : at_ < 65536) (hx : x < 256) :
    Calls Tryd.prog 4 #[.slice A n c, .int .u16 (at_ : Int), .int .u8 (x : Int)] w fun en w' => en = .returned (.bool true) ∧ Kept w w' NoB := by
  obtain ⟨la, hla⟩ : ∃ la, l.take 600 = la := ⟨_, rfl⟩
  have hla6 : la.length ≤ 600 := by rw [← hla, List.length_take]; omega
  obtain ⟨S, hS⟩ : ∃ S, put64 la = S := ⟨_, rfl⟩
  have hSl : S.length = (la.length + 2) / 3 * 4 := by rw [← hS]; exact put64_size _ la (Nat.le_refl _)
  have hback : takeF S = some la := by rw [← hS]; exact takeF_back la
  have hmore : takeF (S ++ [65]) = none := by rw [← hS]; exact takeF_more la 65
  obtain ⟨s, hs⟩ : ∃ s, strB S = s := ⟨_, rfl⟩
  have hsz : s.size = S.length := by rw [← hs, strB_size]
  have hs65 : strB (S ++ [65]) = s ++ ⟨#[65]⟩ := by
    rw [← hs]
    apply ByteArray.ext
    simp [strB]
  have HLA := Lib.hid hla
  have HS := Lib.hid hS
  have HSL := Lib.hid hSl
  have HBACK := Lib.hid hback
  have HMORE := Lib.hid hmore
  have Hs := Lib.hid hs
  have HSZ := Lib.hid hsz
  have H65 := Lib.hid hs65
  have HR := Lib.hid hr
  have hsmall : s.size ≤ 10000 := by omega
  have hsP : strB (put64 la) = s := by rw [hS, hs]
  have HSP := Lib.hid hsP
  clear hla hS hSl hback hmore hs hsz hs65 hr hsP
  go_enter Tryd.func4, Tryd.ntmps4
  go_wp2_with fail
  refine (shown_calls _).mono ?_
  rintro en w1 ⟨rfl, hk1⟩
  have HK1 := Lib.hid hk1
  clear hk1
  go_wp2_with fail
  refine (short_calls _ _ A n c l (HR.out.kept0 HK1.out) hc).mono ?_
  rintro en w2 ⟨B, m, d, rfl, rfl, hmd, hm, hrB⟩
  rw [HLA.out] at hrB
  have hlm : la.length = m := by have := hrB.1; rwa [b8s_length] at this
  have HLM := Lib.hid hlm
  have HB := Lib.hid hrB
  clear hrB hlm
  go_wp2_with fail
  refine (put64_any (w1 := w2) HB.out (by omega) hmd HSP.out).mono ?_
  rintro en w3 ⟨rfl, hk3⟩
  have HK3 := Lib.hid (HK1.out.trans' hk3)
  have HB3 := Lib.hid (HB.out.kept0 hk3)
  clear hk3
  go_wp2_with fail
  refine (take_calls w3 S s Hs.out (by have := HSZ.out; omega)).mono ?_
  rw [HBACK.out]
  rintro en w4 ⟨v, rfl, hv, hk4⟩
  simp only [Option.isSome_some, Option.getD_some] at hv ⊢
  obtain ⟨XA, xc, hxv, hxc, hxr⟩ := hv.readsN (n := la.length) (b8s_length la)
  subst hxv
  have HK4 := Lib.hid (HK3.out.trans' hk4)
  have HB4 := Lib.hid (HB3.out.kept0 hk4)
  have hcx := hxr.string 22 5 9 Tryd.underlying22 Tryd.underlying5 Tryd.underlying9 xc
  have hcb := HB4.out.string 22 5 9 Tryd.underlying22 Tryd.underlying5 Tryd.underlying9 d
  have hlen : ((s.size : Int) != ((m : Int) + 2) / 3 * 4) = false := by
    have h1 := HSZ.out; have h2 := HSL.out; have h3 := HLM.out
    simp only [bne_eq_false_iff_eq]
    omega
  clear hv hxr hk4
  go_wp2_with fail
  refine (take_calls w4 (S ++ [65]) _ H65.out (by have := HSZ.out; simp; omega)).mono ?_
  rw [HMORE.out]
  rintro en w5 ⟨v5, rfl, hv5, hk5⟩
  have HK5 := Lib.hid (HK4.out.trans' hk5)
  have HB5 := Lib.hid (HB4.out.kept0 hk5)
  simp only [Option.isSome_none, Option.getD_none] at hv5 ⊢
  clear hk5 hv5 hcx hcb hlen
  rcases Nat.eq_zero_or_pos s.size with h0 | h0
  · have hla0 : la = [] := List.eq_nil_of_length_eq_zero (by have h1 := HSZ.out; have h2 := HSL.out; omega)
    have he : strB [] = s.extract 0 (max (-1 : Int) 0).toNat := by
      rw [show (max (-1 : Int) 0).toNat = 0 by decide, ← Hs.out, strB_extract]
      rfl
    have he0 : ((s.size : Int) == 0) = true := by simp [h0]
    have HE := Lib.hid he
    clear hla0 he
    go_wp2_with fail
    refine (take_calls w5 [] _ HE.out (by simp)).mono ?_
    rw [show takeF [] = some [] from takeF_back_nil]
    rintro en w6 ⟨v6, rfl, hv6, hk6⟩
    have HK6 := Lib.hid (HK5.out.trans' hk6)
    simp only [Option.isSome_some, Option.getD_some] at hv6 ⊢
    clear hk6 hv6
    go_wp2_with fail
    go_ret
    exact ⟨rfl, HK6.out⟩
  · have he : strB (S.take (S.length - 1)) = s.extract 0 (max ((s.size : Int) - 1) 0).toNat := by
      rw [show (max ((s.size : Int) - 1) 0).toNat = s.size - 1 by omega, HSZ.out, ← Hs.out, strB_extract]
      rfl
    have hSne : put64 la ≠ [] := by
      rw [HS.out]
      rintro rfl
      have := HSZ.out
      rw [List.length_nil] at this
      omega
    have hless : takeF (S.take (S.length - 1)) = none := by
      have := takeF_less la hSne
      rw [HS.out] at this
      exact this
    have HE := Lib.hid he
    have HLESS := Lib.hid hless
    obtain ⟨i, hi⟩ : ∃ i, at_ % s.size = i := ⟨_, rfl⟩
    have hilt : i < s.size := by rw [← hi]; exact Nat.mod_lt _ h0
    have hiI : (at_ : Int) % (s.size : Int) = (i : Int) := by rw [← hi]; simp
    clear he hSne hless hi
    go_wp2_with fail
    refine (take_calls w5 (S.take (S.length - 1)) _ HE.out (by rw [List.length_take]; have := HSZ.out; omega)).mono ?_
    rw [HLESS.out]
    rintro en w6 ⟨v6, rfl, hv6, hk6⟩
    have HK6 := Lib.hid (HK5.out.trans' hk6)
    have HB6 := Lib.hid (HB5.out.kept0 hk6)
    simp only [Option.isSome_none, Option.getD_none] at hv6 ⊢
    clear hk6 hv6
    have he0 : ((s.size : Int) == 0) = false := by rw [beq_eq_false_iff_ne]; omega
    have hp0 : ((s.size : Int) > 0) := by omega
    have hcc : ∀ W : World, (convert 22 9 (.slice (some ⟨W.heap.size, 0, none⟩) 1 1)).run Tryd.prog (W.alloc (.cells #[.int .u8 (x : Int)] 5)).drew = .ok (.string (strB [UInt8.ofNat x])) (W.alloc (.cells #[.int .u8 (x : Int)] 5)).drew := by
      intro W
      refine Reads.string (Reads.drew (Reads.bytes W 5 [UInt8.ofNat x] _ ?_ (0, 0))) 22 5 9 Tryd.underlying22 Tryd.underlying5 Tryd.underlying9 1
      simp [b8s, B8]
      omega
    have hi1 : i ≤ s.size := by omega
    have hi2 : i + 1 ≤ s.size := by omega
    have hz1 : (s.extract 0 i).size = i := by rw [ByteArray.size_extract]; omega
    have hz2 : (s.extract (i + 1) s.size).size = s.size - (i + 1) := by rw [ByteArray.size_extract]; omega
    obtain ⟨T, hT⟩ : ∃ T, S.take i ++ [UInt8.ofNat x] ++ S.drop (i + 1) = T := ⟨_, rfl⟩
    have hTt : s.extract 0 i ++ strB [UInt8.ofNat x] ++ s.extract (i + 1) s.size = strB T := by
      have e1 : s.extract 0 i = strB (S.take i) := by rw [← Hs.out, strB_extract]; rfl
      have e2 : s.extract (i + 1) s.size = strB (S.drop (i + 1)) := by
        rw [HSZ.out, ← Hs.out, strB_extract]
        rw [List.take_of_length_le (by rw [List.length_drop]; omega)]
      rw [e1, e2, ← hT]
      apply ByteArray.ext
      simp [strB]
    have hTl : T.length ≤ 1099511627776 := by
      rw [← hT]
      have := HSZ.out
      simp only [List.length_append, List.length_take, List.length_drop, List.length_cons, List.length_nil]
      omega
    have HTT := Lib.hid hTt
    clear hT hTt
    go_wp2_with fail
    go_region
    rw [HTT.out]
    by_cases hTS : T = S
    · have hTS' : strB T = s := by rw [hTS, Hs.out]
      have hlS : S.length ≤ 1099511627776 := by have := HSZ.out; omega
      rw [hTS']
      clear HTT
      go_wp2_with fail
      refine (take_calls _ S s Hs.out hlS).mono ?_
      rw [HBACK.out]
      rintro en w7 ⟨v7, rfl, hv7, hk7⟩
      simp only [Option.isSome_some, Option.getD_some] at hv7 ⊢
      have HK7 := Lib.hid ((((HK6.out.alloc _).drew)).trans' hk7)
      clear hk7 hv7
      go_wp2_with fail
      go_ret
      exact ⟨rfl, HK7.out⟩
    · obtain ⟨r, hr⟩ : ∃ r, takeF T = r := ⟨_, rfl⟩
      have HTF := Lib.hid hr
      have hneq : (T == s.toList) = false := by
        rw [← Hs.out, strB_tl]
        exact beq_eq_false_iff_ne.2 hTS
      have HTS := Lib.hid hTS
      clear hr hTS
      go_wp2_with fail
      refine (take_calls _ T (strB T) rfl hTl).mono ?_
      rw [HTF.out]
      rintro en w7 ⟨v7, rfl, hv7, hk7⟩
      have HK7 := Lib.hid ((((HK6.out.alloc _).drew)).trans' hk7)
      have HB7 := Lib.hid ((((HB6.out.alloc _).drew)).kept0 hk7)
      clear hk7
      rcases r with _ | y
      · simp only [Option.isSome_none, Option.getD_none] at hv7 ⊢
        clear hv7
        go_wp2_with fail
        go_ret
        exact ⟨rfl, HK7.out⟩
      · simp only [Option.isSome_some, Option.getD_some] at hv7 ⊢
        have hyne : ¬ y = la := by
          intro e
          have := takeF_put HTF.out
          rw [e, HS.out] at this
          exact HTS.out this.symm
        have hyb : (y == la) = false := beq_eq_false_iff_ne.2 hyne
        obtain ⟨YA, yc, hyv, hyc, hyr⟩ := hv7.readsN (n := y.length) (b8s_length y)
        subst hyv
        have hcy := hyr.string 22 5 9 Tryd.underlying22 Tryd.underlying5 Tryd.underlying9 yc
        have hcb := HB7.out.string 22 5 9 Tryd.underlying22 Tryd.underlying5 Tryd.underlying9 d
        clear hv7 hyr hyne
        go_wp2_with fail
        go_ret
        exact ⟨rfl, HK7.out⟩

theorem b64Back_walk (W : World) (a0 : Option Addr) (len0 cap0 : Nat) (z0 : List Int) (a1 a2 : Int) (w0 : IsRow .u8 W a0 len0 cap0 z0) (_y0 : len0 * 1 ≤ 140737488351232) (w1 : (Lit.int .u16 a1).wf = true) (w2 : (Lit.int .u8 a2).wf = true) :
    Calls Tryd.prog 4 #[.slice a0 len0 cap0, .int .u16 a1, .int .u8 a2] W fun en w' => en = .returned (.bool true) ∧ Below W.heap.size W w' := by
  simp only [Lit.wf, Bool.and_eq_true, decide_eq_true_eq] at w1 w2
  have h1 : 0 ≤ a1 ∧ a1 ≤ 65535 := w1
  have h2 : 0 ≤ a2 ∧ a2 ≤ 255 := w2
  obtain ⟨m1, rfl⟩ := Int.eq_ofNat_of_zero_le h1.1
  obtain ⟨m2, rfl⟩ := Int.eq_ofNat_of_zero_le h2.1
  exact (back_calls W a0 len0 cap0 _ w0.bytes_.2.1 w0.bytes_.2.2 m1 m2 (by omega) (by omega)).mono fun _ _ ⟨he, hk⟩ => ⟨he, hk.below⟩
end Go.Proofs.YtllhnedfeballaaDoor
