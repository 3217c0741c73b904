/- DigestJoins' walk. -/
import Derived.Test.YtlmomdpkolnbcaaDoorDigAll
set_option linter.unusedVariables false
set_option linter.unusedSimpArgs false
namespace Go.Proofs.YtlmomdpkolnbcaaDoor
open Go.RowKit Go.Shelf Go.Lib

theorem mem_b8s_one {l : List UInt8} : ∀ u ∈ b8s l, u.oneCell' = true := fun u hu => by
  obtain ⟨b, _, rfl⟩ := List.mem_map.1 hu
  rfl
set_option maxHeartbeats 8000000 in
set_option maxRecDepth 100000 in
theorem joins_law (w : World) (A : Option Addr) (n c : Nat) (l0 : List UInt8) (hR : Reads w (fun k => k < w.heap.size) A n (b8s l0)) (hnc : n ≤ c) (B : Option Addr) (n' c' : Nat) (m0 : List UInt8) (hS : Reads w (fun k => k < w.heap.size) B n' (b8s m0)) (hnc' : n' ≤ c') (hC : SinC w) :
    Calls Tryd.prog 7 #[.slice A n c, .slice B n' c'] w fun en w' => en = .returned (.bool true) ∧ Below w.heap.size w w' := by
  obtain ⟨a, ha⟩ : ∃ l, l0.take 600 = l := ⟨_, rfl⟩
  obtain ⟨b, hb⟩ : ∃ l, m0.take 600 = l := ⟨_, rfl⟩
  have hab := hexL_app a b
  have hun := unH_hexL (a ++ b)
  rw [hab] at hun
  have hla := hexL_len a
  have hlb := hexL_len b
  obtain ⟨ha', hha⟩ : ∃ h, hexL a = h := ⟨_, rfl⟩
  obtain ⟨hb', hhb⟩ : ∃ h, hexL b = h := ⟨_, rfl⟩
  rw [hha, hhb] at hun hab
  rw [hha] at hla
  rw [hhb] at hlb
  have HA := Lib.hid ha
  have HB := Lib.hid hb
  have HAB := Lib.hid hab
  have HUN := Lib.hid hun
  have HLA := Lib.hid hla
  have HLB := Lib.hid hlb
  have HHA := Lib.hid hha
  have HHB := Lib.hid hhb
  have HR := Lib.hid hR
  have HS := Lib.hid hS
  have HC := Lib.hid hC
  clear ha hb hab hun hla hlb hha hhb hR hS hC
  go_enter Tryd.func7, Tryd.ntmps7
  go_wp2_with fail
  refine (shown_calls w HC.out).mono ?_
  rintro en w1 ⟨rfl, hk⟩
  have HK1 := Lib.hid hk
  clear hk
  go_wp2_with fail
  refine (short_calls w1 _ A n c l0 (HR.out.kept0 HK1.out) hnc).mono ?_
  rintro en w1' ⟨m, rfl, rfl, hmc, hm6, hrd⟩
  rw [HA.out] at hrd
  have HRA := Lib.hid hrd
  clear hrd
  go_wp2_with fail
  refine (short_calls w1' _ B n' c' m0 (HS.out.kept0 HK1.out) hnc').mono ?_
  rintro en w2 ⟨m', rfl, rfl, hmc', hm6', hrd⟩
  rw [HB.out] at hrd
  have HRB := Lib.hid hrd
  have hma : a.length = m := by have := HRA.out.1; rwa [b8s_length] at this
  have hmb : b.length = m' := by have := HRB.out.1; rwa [b8s_length] at this
  have HMA := Lib.hid hma
  have HMB := Lib.hid hmb
  clear hrd hma hmb
  go_wp2_with (first
    | (at_builtin; refine wpList_appN (W := w2.alloc (.cells #[] 5)) rfl _ _ 22 5 (.int .u8 0) 1 rfl Tryd.underlying22 info_u8z rfl (by decide) (fun b => w2.heap.size ≤ b) _ (.slice (some ⟨w2.heap.size, 0, none⟩) 0 0) [] (b8s a) A m c rfl rfl mem_b8s_one (Row.made0 w2 5 _ (Nat.le_refl _)) (HRA.out.alloc _) (fun k hk => by simp at hk; omega) (by simp; omega) ?_; intro v3 w3 hrow3 hk3 hob3)
    | (at_builtin; refine wpList_appN (W := w3) rfl _ _ 22 5 (.int .u8 0) 1 rfl Tryd.underlying22 info_u8z rfl (by decide) (fun b => w2.heap.size ≤ b) (fun k => k < w.heap.size) v3 (b8s a) (b8s b) B m' c' rfl rfl mem_b8s_one (by simpa using hrow3) ((HRB.out.alloc _).kept hk3 (fun k _ hs ht => by have := ob_lit ht; have := HK1.out.size; omega)) (fun k hk => by have := hk3.size; simp at this; omega) (by rw [b8s_length, HMA.out]; omega) ?_; intro v4 w4 hrow4 hk4 hob4))
  have HK3 := Lib.hid ((HK1.out.alloc (.cells #[] 5)).trans hk3 fun k hk => .inr (by have := ob_lit hk; have := HK1.out.size; omega))
  have HK4 := Lib.hid (HK3.out.trans hk4 fun k hk => .inr (Nat.le_trans HK1.out.size (hrow3.2 k hk)))
  have HRA4 := Lib.hid (HRA.out.kept0 (((Kept.refl w2 NoB).alloc (.cells #[] 5)).trans hk3 (fun k hk => .inr (by have := ob_lit hk; omega)) |>.trans hk4 fun k hk => .inr (hrow3.2 k hk)))
  have HRB4 := Lib.hid (HRB.out.kept0 (((Kept.refl w2 NoB).alloc (.cells #[] 5)).trans hk3 (fun k hk => .inr (by have := ob_lit hk; omega)) |>.trans hk4 fun k hk => .inr (hrow3.2 k hk)))
  obtain ⟨D, cD, rfl, hcD, hmD⟩ := hrow4.shape
  have hrd4 := hrow4.reads'
  rw [← b8s_append] at hrd4 hcD
  rw [← b8s_append]
  have hlen4 : (b8s (a ++ b)).length = m + m' := by rw [b8s_length, List.length_append, HMA.out, HMB.out]
  rw [hlen4] at hrd4 hcD ⊢
  obtain ⟨N, hN⟩ : ∃ N, m + m' = N := ⟨_, rfl⟩
  have hNb : N ≤ 1200 := by omega
  rw [hN] at hrd4 hcD ⊢
  have HRD := Lib.hid (hrd4.mono (T := fun _ => True) fun _ _ _ => trivial)
  clear hrow3 hk3 hob3 hrow4 hk4 hob4 hrd4 hlen4 hN
  have hla12 : ha'.length ≤ 1200 := by rw [HLA.out, HMA.out]; omega
  have hlb12 : hb'.length ≤ 1200 := by rw [HLB.out, HMB.out]; omega
  have e1 := strB_app ha' hb'
  have hlab : (ha' ++ hb').length ≤ 2400 := by rw [List.length_append]; omega
  go_wp2_with fail
  refine (hex_calls w4 _ A m c a HRA4.out (by omega)).mono ?_
  rw [HHA.out]
  rintro en w5 ⟨rfl, hk⟩
  have HK5 := Lib.hid (HK4.out.trans' hk)
  have HRA5 := Lib.hid (HRA4.out.kept0 hk)
  have HRB5 := Lib.hid (HRB4.out.kept0 hk)
  have HRD5 := Lib.hid (HRD.out.kept0 hk)
  clear hk
  go_wp2_with fail
  refine (hex_calls w5 _ B m' c' b HRB5.out (by omega)).mono ?_
  rw [HHB.out]
  rintro en w6 ⟨rfl, hk⟩
  have HK6 := Lib.hid (HK5.out.trans' hk)
  have HRA6 := Lib.hid (HRA5.out.kept0 hk)
  have HRB6 := Lib.hid (HRB5.out.kept0 hk)
  have HRD6 := Lib.hid (HRD5.out.kept0 hk)
  clear hk
  go_wp2_with fail
  refine (unhexAny_calls w6 (ha' ++ hb') (by omega)).mono ?_
  rintro en w7 ⟨XA, xn, xc, rfl, hk, hxc, hxm, hxr⟩
  rw [HUN.out] at hxr ⊢
  simp only [Option.isSome_some, Option.getD_some] at hxr ⊢
  have HX7 := Lib.hid (hxr.mono (T := fun _ => True) fun _ _ _ => trivial)
  have HK7 := Lib.hid (HK6.out.trans' hk)
  have HRA7 := Lib.hid (HRA6.out.kept0 hk)
  have HRB7 := Lib.hid (HRB6.out.kept0 hk)
  have HRD7 := Lib.hid (HRD6.out.kept0 hk)
  clear hk hxr
  go_wp2_with fail
  refine (hex_calls w7 _ D N cD (a ++ b) HRD7.out (by omega)).mono ?_
  rw [HAB.out]
  rintro en w8 ⟨rfl, hk⟩
  have HK8 := Lib.hid (HK7.out.trans' hk)
  have HX8 := Lib.hid (HX7.out.kept0 hk)
  have HRA8 := Lib.hid (HRA7.out.kept0 hk)
  have HRB8 := Lib.hid (HRB7.out.kept0 hk)
  have HRD8 := Lib.hid (HRD7.out.kept0 hk)
  clear hk
  go_wp2_with fail
  refine (hex_calls w8 _ A m c a HRA8.out (by omega)).mono ?_
  rw [HHA.out]
  rintro en w9 ⟨rfl, hk⟩
  have HK9 := Lib.hid (HK8.out.trans' hk)
  have HX9 := Lib.hid (HX8.out.kept0 hk)
  have HRB9 := Lib.hid (HRB8.out.kept0 hk)
  have HRD9 := Lib.hid (HRD8.out.kept0 hk)
  clear hk
  go_wp2_with fail
  refine (hex_calls w9 _ B m' c' b HRB9.out (by omega)).mono ?_
  rw [HHB.out]
  rintro en w10 ⟨rfl, hk⟩
  have HK10 := Lib.hid (HK9.out.trans' hk)
  have hcx := (HX9.out.kept0 hk).string (P := Tryd.prog) 22 5 9 Tryd.underlying22 Tryd.underlying5 Tryd.underlying9 xc
  have hcd := (HRD9.out.kept0 hk).string (P := Tryd.prog) 22 5 9 Tryd.underlying22 Tryd.underlying5 Tryd.underlying9 cD
  have b1 := strB_beqI (ha' ++ hb')
  have b2 := strB_beqI (a ++ b)
  clear hk
  go_wp2_with fail
  go_ret
  exact ⟨rfl, HK10.out.below⟩
theorem digestJoins_walk (W : World) (a0 : Option Addr) (len0 cap0 : Nat) (z0 : List Int) (a1 : Option Addr) (len1 cap1 : Nat) (z1 : List Int) (w0 : IsRow .u8 W a0 len0 cap0 z0) (_y0 : len0 * 1 ≤ 140737488351232) (w1 : IsRow .u8 W a1 len1 cap1 z1) (_y1 : len1 * 1 ≤ 140737488351232) (hL : laidMetH Tryd.prog Rows.digestJoinsRow.laid W) (_hsh : W.ShapedOpen Tryd.prog) :
    Calls Tryd.prog 7 #[.slice a0 len0 cap0, .slice a1 len1 cap1] W fun en w' => en = .returned (.bool true) ∧ Below W.heap.size W w' :=
  joins_law W a0 len0 cap0 _ w0.bytes_.2.1 w0.bytes_.2.2 a1 len1 cap1 _ w1.bytes_.2.1 w1.bytes_.2.2 (SinC.of_laid hL)
end Go.Proofs.YtlmomdpkolnbcaaDoor
