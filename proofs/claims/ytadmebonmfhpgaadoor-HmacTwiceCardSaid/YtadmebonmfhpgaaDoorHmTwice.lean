/- HmacTwice' walk. (Printed by gen_hmlaws.py.) -/
import Derived.Test.YtadmebonmfhpgaaDoorHmAll
import Derived.Deep.RegionHeld3
set_option linter.unusedVariables false
set_option linter.unusedSimpArgs false
namespace Go.Proofs.YtadmebonmfhpgaaDoor
open Go.RowKit Go.Shelf Go.Lib

def xpI (K : List UInt8) (x : UInt8) (i : Nat) : List UInt8 := (List.range i).map fun j => K.getD j 0 ^^^ x
theorem xpI_snoc (K : List UInt8) (x : UInt8) (i : Nat) : xpI K x (i + 1) = xpI K x i ++ [K.getD i 0 ^^^ x] := by simp [xpI, List.range_succ]
theorem xpI_len (K : List UInt8) (x : UInt8) (i : Nat) : (xpI K x i).length = i := by simp [xpI]
def TwS (w0 : World) (K : List UInt8) (gk : Nat) (v6 v7 v8 : Value) (wr : World) : Prop :=
  ∃ i, i ≤ 64 ∧ gk = 64 - i ∧ v8 = .int .i64 (i : Int) ∧ Row wr 5 (fun k => w0.heap.size ≤ k) v6 (b8s (xpI K 54 i)) ∧ Row wr 5 (fun k => w0.heap.size ≤ k) v7 (b8s (xpI K 92 i)) ∧ (∀ k, OB v6 k → ¬ OB v7 k) ∧ Kept w0 wr NoB
theorem keyP_short {K : List UInt8} (h : K.length ≤ 64) : keyP K = K := by unfold keyP; rw [if_neg (by omega)]
set_option maxHeartbeats 16000000 in
set_option maxRecDepth 100000 in
theorem hmtwice_law (w : World) (A : Option Addr) (n c : Nat) (l0 : List UInt8) (hR : Reads w (fun k => k < w.heap.size) A n (b8s l0)) (hnc : n ≤ c) (hcb : c ≤ 9223372036854775807) (B : Option Addr) (n' c' : Nat) (m0 : List UInt8) (hS : Reads w (fun k => k < w.heap.size) B n' (b8s m0)) (hnc' : n' ≤ c') (hC : SinC w) :
    Calls Tryd.prog 5 #[.slice A n c, .slice B n' c'] w fun en w' => en = .returned (.bool true) ∧ Below w.heap.size w w' := by
  obtain ⟨K, hKe⟩ : ∃ l, l0.take 64 = l := ⟨_, rfl⟩
  obtain ⟨b, hb⟩ : ∃ l, m0.take 300 = l := ⟨_, rfl⟩
  have hKl : K.length ≤ 64 := by rw [← hKe, List.length_take]; omega
  have hn0 : l0.length = n := by have := hR.1; rwa [b8s_length] at this
  have HKE := Lib.hid hKe
  have HBE := Lib.hid hb
  have HN0 := Lib.hid hn0
  have HR := Lib.hid hR
  have HS := Lib.hid hS
  have HC := Lib.hid hC
  clear hKe hb hn0 hR hS hC
  have hlf := hm_len16 (xorK K 54 ++ b)
  obtain ⟨Mf, hMf⟩ : ∃ M, md5P (xorK K 54 ++ b) = M := ⟨_, rfl⟩
  rw [hMf] at hlf
  obtain ⟨cf, hcf⟩ : ∃ c, b8s Mf = c := ⟨_, rfl⟩
  have HMf := Lib.hid hMf
  have HLf := Lib.hid hlf
  have HBf := Lib.hid hcf
  clear hlf hMf hcf
  obtain ⟨f0, f1, f2, f3, f4, f5, f6, f7, f8, f9, f10, f11, f12, f13, f14, f15, hdf, hvf⟩ := hm_v16 Mf HLf.out
  have HDf := Lib.hid hdf
  have HVf := Lib.hid hvf
  clear hdf hvf
  have hlr := hmac_len K b
  obtain ⟨Mr, hMr⟩ : ∃ M, hmacP K b = M := ⟨_, rfl⟩
  rw [hMr] at hlr
  obtain ⟨cr, hcr⟩ : ∃ c, b8s Mr = c := ⟨_, rfl⟩
  have HMr := Lib.hid hMr
  have HLr := Lib.hid hlr
  have HBr := Lib.hid hcr
  clear hlr hMr hcr
  have HQr : Hid (∀ W : World, (Op.equalIn 10000 25 (.agg cr.toArray) (.agg cr.toArray)).run Tryd.prog W = .ok true W) := Lib.hid fun W => by
    have := eq16 W Mr Mr HLr.out HLr.out
    rw [beq_self_eq_true] at this
    rw [← HBr.out]
    exact this
  have HRE : Hid (md5P (xorK K 92 ++ Mf) = Mr) := Lib.hid (by rw [← HMr.out, hmacP, keyP_short hKl, HMf.out])
  go_enter Tryd.func5, Tryd.ntmps5
  go_wp2_with fail
  refine (shown_calls w HC.out).mono ?_
  rintro en w1 ⟨rfl, hk⟩
  have HK1 := Lib.hid hk
  clear hk
  go_wp2_with fail
  refine (short_calls w1 _ B n' c' m0 (HS.out.kept0 HK1.out) hnc').mono ?_
  rintro en w1' ⟨m', rfl, rfl, hmc', hm6', hrd⟩
  rw [HBE.out] at hrd
  have HRB := Lib.hid hrd
  have HBL : Hid (b.length = m') := Lib.hid (by have := hrd.1; rwa [b8s_length] at this)
  clear hrd
  obtain ⟨kn, hkn⟩ : ∃ kn, kn = min n 64 := ⟨_, rfl⟩
  have HKL : Hid (K.length = kn) := Lib.hid (by rw [← HKE.out, List.length_take, HN0.out, hkn, Nat.min_comm])
  have hkn64 : kn ≤ 64 := by omega
  have hknc : kn ≤ c := by omega
  by_cases hbig : 64 < n
  · skip
    have t0 : (64 : Int) < (n : Int) := by omega
    have t1 : (64 : Int) ≤ (c : Int) := by omega
    obtain rfl : kn = 64 := by omega
    clear hkn
    go_upto_region 7 with (fail)
    have HK2 := Lib.hid ((HK1.out.alloc (.cells #[] 5)).alloc (.cells #[] 5))
    have HR6 := Lib.hid ((Row.made0 w1' 5 (fun k => w.heap.size ≤ k) HK1.out.size).alloc (.cells #[] 5))
    have hr7 := Row.made0 (w1'.alloc (.cells #[] 5)) 5 (fun k => w.heap.size ≤ k) (HK1.out.alloc (.cells #[] 5)).size
    rw [show (w1'.alloc (.cells #[] 5)).heap.size = w1'.heap.size + 1 by simp] at hr7
    have HR7 := Lib.hid hr7
    have HDJ : Hid (∀ k, OB (.slice (some ⟨w1'.heap.size, 0, none⟩) 0 0) k → ¬ OB (.slice (some ⟨w1'.heap.size + 1, 0, none⟩) 0 0) k) := Lib.hid fun k h1 h2 => by have := ob_lit h1; have := ob_lit h2; omega
    have HRB2 := Lib.hid ((HRB.out.alloc (.cells #[] 5)).alloc (.cells #[] 5))
    clear hr7
    generalize (w1'.alloc (.cells #[] 5)).alloc (.cells #[] 5) = W2 at *
    obtain ⟨g7, hg7⟩ : ∃ g, w1'.heap.size + 1 = g := ⟨_, rfl⟩
    rw [hg7] at HR7 HDJ ⊢
    clear hg7
    obtain ⟨g6, hg6⟩ : ∃ g, w1'.heap.size = g := ⟨_, rfl⟩
    rw [hg6] at HR6 HDJ ⊢
    clear hg6
    have HRAk : Hid (∀ W, Kept w W NoB → Reads W (fun k => k < w.heap.size) A 64 (b8s K)) := Lib.hid fun W k => by
      have := (HR.out.kept0 k).take (k := 64) (by omega)
      rw [b8s_take] at this
      rwa [show l0.take 64 = K by rw [← HKE.out]] at this
    have HRBk : Hid (∀ W, Kept w W NoB → Reads W (fun k => k < w.heap.size) B m' (b8s b)) := Lib.hid fun W k => by
      have h := HS.out.kept0 k
      have h3 := HBL.out
      rw [← HBE.out, List.length_take] at h3
      have h0 := h.1
      rw [b8s_length] at h0
      have h2 := h.take (k := m') (by omega)
      rw [b8s_take] at h2
      have e : m0.take m' = b := by
        rw [← HBE.out]
        rcases Nat.le_total m0.length 300 with h4 | h4
        · rw [List.take_of_length_le (by omega), List.take_of_length_le h4]
        · rw [show m' = 300 by omega]
      rwa [e] at h2
    go_wp2_with fail
    go_loopg [6, 7, 8, 9] 64 (fun gk v6 v7 v8 _ wr => TwS w K gk v6 v7 v8 wr)
    case atStart => exact ⟨0, Nat.zero_le _, rfl, rfl, HR6.out, HR7.out, HDJ.out, HK2.out⟩
    case round =>
      obtain ⟨i, hi, hgk, rfl, hr6, hr7, hdj, hk⟩ := hrel
      have HG := Lib.hid hgk
      have R6 := Lib.hid hr6
      have R7 := Lib.hid hr7
      have DJ := Lib.hid hdj
      have KR := Lib.hid hk
      clear hgk hr6 hr7 hdj hk HR6 HR7 HDJ HK2 HRB2
      rcases Nat.lt_or_ge i 64 with hlt | hge
      · have ti : (i : Int) < 64 := by omega
        obtain ⟨A6, n6, c6, rfl⟩ := R6.out.slice
        obtain ⟨A7, n7, c7, rfl⟩ := R7.out.slice
        obtain ⟨y, hy⟩ : ∃ y, K.getD i 0 = y := ⟨_, rfl⟩
        have hx1 := xor_B8 y 54
        have hx2 := xor_B8 y 92
        rw [show (((54 : UInt8).toNat : Nat) : Int) = 54 from rfl] at hx1
        rw [show (((92 : UInt8).toNat : Nat) : Int) = 92 from rfl] at hx2
        have s1 := xpI_snoc K 54 i
        have s2 := xpI_snoc K 92 i
        rw [hy] at s1 s2
        have S1 := Lib.hid s1
        have S2 := Lib.hid s2
        have hylt := y.toNat_lt
        obtain ⟨yn, hyn⟩ : ∃ n, y.toNat = n := ⟨_, rfl⟩
        obtain ⟨z1, hz1⟩ : ∃ z, (y ^^^ 54).toNat = z := ⟨_, rfl⟩
        obtain ⟨z2, hz2⟩ : ∃ z, (y ^^^ 92).toNat = z := ⟨_, rfl⟩
        have B1 : Hid (B8 (y ^^^ 54) = .int .u8 (z1 : Int)) := Lib.hid (by unfold B8; rw [hz1])
        have B2 : Hid (B8 (y ^^^ 92) = .int .u8 (z2 : Int)) := Lib.hid (by unfold B8; rw [hz2])
        rw [hyn] at hx1 hx2 hylt
        rw [hz1] at hx1
        rw [hz2] at hx2
        have hl6 : ((b8s (xpI K 54 i)).length + 1) * 1 ≤ 140737488355328 := by rw [b8s_length, xpI_len]; omega
        have hl7 : ((b8s (xpI K 92 i)).length + 1) * 1 ≤ 140737488355328 := by rw [b8s_length, xpI_len]; omega
        have L6 := Lib.hid hl6
        have L7 := Lib.hid hl7
        have hsz := KR.out.size
        clear s1 s2 hz1 hz2 hl6 hl7
        obtain ⟨ad, u, hAd, hu, hcell⟩ := (HRAk.out _ KR.out).at_ (k := i) (by omega)
        have hiK : i < K.length := by rw [HKL.out]; omega
        rw [b8s_at K i hiK] at hu
        injection hu with hu
        have hKy : K[i] = y := by rw [← hy, List.getD_eq_getElem?_getD, List.getElem?_eq_getElem hiK]; rfl
        rw [hKy, hyn] at hu
        subst hu
        skip
        clear hKy hiK hy hyn
        subst hAd
        go_wp2_with (first
          | (at_builtin; refine wpList_app1 (W := wr) rfl _ _ 22 5 (.int .u8 0) 1 rfl Tryd.underlying22 cc_info rfl (by decide) (fun k => w.heap.size ≤ k) (.slice A6 n6 c6) (b8s (xpI K 54 i)) (.int .u8 (z1 : Int)) rfl rfl rfl R6.out (fun k hk => Nat.le_trans hsz hk) L6.out ?_; intro v10 w10 hrow10 hk10 hob10)
          | (at_builtin; refine wpList_app1 (W := w10) rfl _ _ 22 5 (.int .u8 0) 1 rfl Tryd.underlying22 cc_info rfl (by decide) (fun k => w.heap.size ≤ k) (.slice A7 n7 c7) (b8s (xpI K 92 i)) (.int .u8 (z2 : Int)) rfl rfl rfl (R7.out.kept_ hk10 (fun k h1 h2 => DJ.out k h2 h1)) (fun k hk => Nat.le_trans hsz (Nat.le_trans hk10.size hk)) L7.out ?_; intro v11 w11 hrow11 hk11 hob11))
        have r6 := hrow10.kept_ hk11 (fun k h1 h2 => (hob10 k h1).elim (fun h => DJ.out k h h2) (fun h => by have := R7.out.lt h2; omega))
        have dj : ∀ k, OB v10 k → ¬ OB v11 k := fun k h1 h2 => (hob11 k h2).elim (fun h => (hob10 k h1).elim (fun h' => DJ.out k h' h) (fun h' => by have := R7.out.lt h; omega)) (fun h => by have := hrow10.lt h1; omega)
        have kk := (KR.out.trans hk10 (fun k h => .inr (R6.out.2 k h))).trans hk11 (fun k h => .inr (R7.out.2 k h))
        have Q6 := Lib.hid r6
        have Q7 := Lib.hid hrow11
        have QD := Lib.hid dj
        have QK := Lib.hid kk
        clear hrow10 hk10 hob10 hrow11 hk11 hob11 r6 dj kk
        go_wp2_with fail
        go_roundg (64 - (i + 1))
        case measure => have := HG.out; omega
        case rel => exact ⟨i + 1, hlt, rfl, by go_num, by rw [S1.out, b8s_append]; simp only [b8s, List.map_cons, List.map_nil, B1.out]; exact Q6.out, by rw [S2.out, b8s_append]; simp only [b8s, List.map_cons, List.map_nil, B2.out]; exact Q7.out, QD.out, QK.out⟩
      · obtain rfl : i = 64 := by omega
        have ti : ¬ (64 : Int) < 64 := by omega
        rw [show xpI K 54 64 = xorK K 54 from rfl] at R6
        rw [show xpI K 92 64 = xorK K 92 from rfl] at R7
        have hsz := KR.out.size
        obtain ⟨A6, n6, c6, rfl⟩ := R6.out.slice
        obtain ⟨A7, n7, c7, rfl⟩ := R7.out.slice
        go_wp2_with (at_builtin; refine wpList_appN (W := wr) rfl _ _ 22 5 (.int .u8 0) 1 rfl Tryd.underlying22 cc_info rfl (by decide) (fun k => w.heap.size ≤ k) _ (.slice A6 n6 c6) (b8s (xorK K 54)) (b8s b) B m' c' rfl rfl cc_one R6.out (HRBk.out _ KR.out) (fun k hk => Nat.le_trans hsz hk) (by rw [b8s_length, xorK_len]; omega) ?_; intro v12 w12 hrow12 hk12 hob12)
        have r7 := R7.out.kept_ hk12 (fun k h1 h2 => DJ.out k h2 h1)
        have kk := KR.out.trans hk12 (fun k h => .inr (R6.out.2 k h))
        rw [← b8s_append] at hrow12
        obtain ⟨A8, c8, rfl, hc8, hm8⟩ := hrow12.shape
        have hrd := hrow12.reads'
        have hXl : (b8s (xorK K 54 ++ b)).length = 64 + m' := by rw [b8s_length, List.length_append, xorK_len, HBL.out]
        rw [hXl] at hc8 hrd ⊢
        obtain ⟨N, hN⟩ : ∃ N, 64 + m' = N := ⟨_, rfl⟩
        have hNb : N ≤ 364 := by omega
        rw [hN] at hc8 hrd ⊢
        unfold maxLen at hm8
        have hs := sum_any w12 _ A8 N c8 (xorK K 54 ++ b) hrd hc8 (by omega) hm8 (HC.out.kept0 kk)
        rw [HMf.out, HVf.out] at hs
        have HSf := Lib.hid hs
        have Q7 := Lib.hid r7
        have QK := Lib.hid kk
        clear r7 kk hrow12 hk12 hob12 hrd hXl hN hs
        go_wp2_with fail
        (with_reducible refine HSf.out.mono ?_)
        rintro en w13 ⟨rfl, hk⟩
        have K13 := Lib.hid (QK.out.trans' hk)
        have R13 := Lib.hid (Q7.out.kept0 hk)
        clear hk HSf Q7 QK R7 R6 DJ
        go_upto_region 16 with (fail)
        have K14 := Lib.hid (K13.out.alloc (.cells #[.int .u8 (f0.toNat : Int), .int .u8 (f1.toNat : Int), .int .u8 (f2.toNat : Int), .int .u8 (f3.toNat : Int), .int .u8 (f4.toNat : Int), .int .u8 (f5.toNat : Int), .int .u8 (f6.toNat : Int), .int .u8 (f7.toNat : Int), .int .u8 (f8.toNat : Int), .int .u8 (f9.toNat : Int), .int .u8 (f10.toNat : Int), .int .u8 (f11.toNat : Int), .int .u8 (f12.toNat : Int), .int .u8 (f13.toNat : Int), .int .u8 (f14.toNat : Int), .int .u8 (f15.toNat : Int)] 25))
        have R14 := Lib.hid (R13.out.alloc (.cells #[.int .u8 (f0.toNat : Int), .int .u8 (f1.toNat : Int), .int .u8 (f2.toNat : Int), .int .u8 (f3.toNat : Int), .int .u8 (f4.toNat : Int), .int .u8 (f5.toNat : Int), .int .u8 (f6.toNat : Int), .int .u8 (f7.toNat : Int), .int .u8 (f8.toNat : Int), .int .u8 (f9.toNat : Int), .int .u8 (f10.toNat : Int), .int .u8 (f11.toNat : Int), .int .u8 (f12.toNat : Int), .int .u8 (f13.toNat : Int), .int .u8 (f14.toNat : Int), .int .u8 (f15.toNat : Int)] 25))
        have hb14 := Blk.new w13 25 #[.int .u8 (f0.toNat : Int), .int .u8 (f1.toNat : Int), .int .u8 (f2.toNat : Int), .int .u8 (f3.toNat : Int), .int .u8 (f4.toNat : Int), .int .u8 (f5.toNat : Int), .int .u8 (f6.toNat : Int), .int .u8 (f7.toNat : Int), .int .u8 (f8.toNat : Int), .int .u8 (f9.toNat : Int), .int .u8 (f10.toNat : Int), .int .u8 (f11.toNat : Int), .int .u8 (f12.toNat : Int), .int .u8 (f13.toNat : Int), .int .u8 (f14.toNat : Int), .int .u8 (f15.toNat : Int)]
        have e14 : (#[.int .u8 (f0.toNat : Int), .int .u8 (f1.toNat : Int), .int .u8 (f2.toNat : Int), .int .u8 (f3.toNat : Int), .int .u8 (f4.toNat : Int), .int .u8 (f5.toNat : Int), .int .u8 (f6.toNat : Int), .int .u8 (f7.toNat : Int), .int .u8 (f8.toNat : Int), .int .u8 (f9.toNat : Int), .int .u8 (f10.toNat : Int), .int .u8 (f11.toNat : Int), .int .u8 (f12.toNat : Int), .int .u8 (f13.toNat : Int), .int .u8 (f14.toNat : Int), .int .u8 (f15.toNat : Int)] : Array Value) = (b8s Mf).toArray := by rw [HDf.out]; rfl
        generalize w13.alloc (.cells #[.int .u8 (f0.toNat : Int), .int .u8 (f1.toNat : Int), .int .u8 (f2.toNat : Int), .int .u8 (f3.toNat : Int), .int .u8 (f4.toNat : Int), .int .u8 (f5.toNat : Int), .int .u8 (f6.toNat : Int), .int .u8 (f7.toNat : Int), .int .u8 (f8.toNat : Int), .int .u8 (f9.toNat : Int), .int .u8 (f10.toNat : Int), .int .u8 (f11.toNat : Int), .int .u8 (f12.toNat : Int), .int .u8 (f13.toNat : Int), .int .u8 (f14.toNat : Int), .int .u8 (f15.toNat : Int)] 25) = W14 at *
        rw [e14] at hb14
        have HRD := Lib.hid (hm_reads hb14 16 HLf.out)
        clear hb14 e14
        obtain ⟨g10, hg10⟩ : ∃ g, w13.heap.size = g := ⟨_, rfl⟩
        rw [hg10] at HRD ⊢
        clear hg10 K13 R13
        have kk0 : Kept W14 W14.drew NoB := (Kept.refl W14 NoB).drew
        have hq := HQr.out
        have HH : Hid (∀ W, Kept W14 W NoB → Calls Tryd.prog 9 #[.slice A 64 c, .slice B m' c'] W fun en w' => en = .returned (.agg cr.toArray) ∧ Kept W w' NoB) := Lib.hid fun W k => by
          have := hsum_calls W _ _ A 64 c K B m' c' b (HRAk.out W (K14.out.trans' k)) (by omega) (by omega) hcb (HRBk.out W (K14.out.trans' k)) (by omega) (HC.out.kept0 (K14.out.trans' k))
          rw [HMr.out] at this
          rw [← HBr.out]
          exact this
        go_region_law (first
          | (refine step_appN (W := w15) (by simp [Region.wanted, yielded, Act.put]) (.tmp 52) (.tmp 53) 22 5 (.int .u8 0) 1 rfl Tryd.underlying22 cc_info rfl (by decide) (fun k => w.heap.size ≤ k) _ (.slice A7 n7 c7) (b8s (xorK K 92)) (b8s Mf) (some ⟨g10, 0, none⟩) 16 16 rfl rfl cc_one (R14.out.kept0 kk1) (HRD.out.kept0 kk1) (fun k hk => Nat.le_trans (K14.out.trans' kk1).size hk) (by rw [b8s_length, xorK_len]; omega) ?_; intro v16' w16 hrow16 hk16 hob16; have kk2 : Kept w w16 NoB := (K14.out.trans' kk1).trans hk16 (fun k hk => .inr ((R14.out.kept0 kk1).2 k hk)); rw [← b8s_append] at hrow16; obtain ⟨A16, c16, hv16, hc16, hm16⟩ := hrow16.shape; subst hv16; have hrd16 := hrow16.reads'; have hXl16 : (b8s (xorK K 92 ++ Mf)).length = 80 := (by rw [b8s_length, List.length_append, xorK_len, HLf.out]); rw [hXl16] at hrd16 hc16 ⊢)
          | (go_simp; go_at_call 9; (with_reducible refine (HH.out _ kk0).mono ?_); rintro en w15 ⟨rfl, hk15⟩; have kk1 := kk0.trans' hk15)
          | (go_simp; go_at_call 13; have hs17 := sum_any w16 _ A16 80 c16 (xorK K 92 ++ Mf) hrd16 hc16 (by omega) (by unfold maxLen at hm16; exact hm16) (HC.out.kept0 kk2); rw [HRE.out, show v16 Mr = .agg (b8s Mr).toArray from rfl, HBr.out] at hs17; (with_reducible refine hs17.mono ?_); rintro en w17 ⟨rfl, hk17⟩; clear hs17; have kk3 := kk2.trans' hk17))
        all_goals
          go_wp2_with fail
          go_ret
          exact ⟨rfl, kk3.below⟩
  · skip
    have t0 : ¬ (64 : Int) < (n : Int) := by omega
    obtain rfl : kn = n := by omega
    clear hkn
    go_upto_region 7 with (fail)
    have HK2 := Lib.hid ((HK1.out.alloc (.cells #[] 5)).alloc (.cells #[] 5))
    have HR6 := Lib.hid ((Row.made0 w1' 5 (fun k => w.heap.size ≤ k) HK1.out.size).alloc (.cells #[] 5))
    have hr7 := Row.made0 (w1'.alloc (.cells #[] 5)) 5 (fun k => w.heap.size ≤ k) (HK1.out.alloc (.cells #[] 5)).size
    rw [show (w1'.alloc (.cells #[] 5)).heap.size = w1'.heap.size + 1 by simp] at hr7
    have HR7 := Lib.hid hr7
    have HDJ : Hid (∀ k, OB (.slice (some ⟨w1'.heap.size, 0, none⟩) 0 0) k → ¬ OB (.slice (some ⟨w1'.heap.size + 1, 0, none⟩) 0 0) k) := Lib.hid fun k h1 h2 => by have := ob_lit h1; have := ob_lit h2; omega
    have HRB2 := Lib.hid ((HRB.out.alloc (.cells #[] 5)).alloc (.cells #[] 5))
    clear hr7
    generalize (w1'.alloc (.cells #[] 5)).alloc (.cells #[] 5) = W2 at *
    obtain ⟨g7, hg7⟩ : ∃ g, w1'.heap.size + 1 = g := ⟨_, rfl⟩
    rw [hg7] at HR7 HDJ ⊢
    clear hg7
    obtain ⟨g6, hg6⟩ : ∃ g, w1'.heap.size = g := ⟨_, rfl⟩
    rw [hg6] at HR6 HDJ ⊢
    clear hg6
    have HRAk : Hid (∀ W, Kept w W NoB → Reads W (fun k => k < w.heap.size) A kn (b8s K)) := Lib.hid fun W k => by
      have := (HR.out.kept0 k).take (k := kn) (by omega)
      rw [b8s_take] at this
      rwa [show l0.take kn = K by rw [← HKE.out]; rw [List.take_of_length_le (by rw [HN0.out]; omega), List.take_of_length_le (by rw [HN0.out]; omega)]] at this
    have HRBk : Hid (∀ W, Kept w W NoB → Reads W (fun k => k < w.heap.size) B m' (b8s b)) := Lib.hid fun W k => by
      have h := HS.out.kept0 k
      have h3 := HBL.out
      rw [← HBE.out, List.length_take] at h3
      have h0 := h.1
      rw [b8s_length] at h0
      have h2 := h.take (k := m') (by omega)
      rw [b8s_take] at h2
      have e : m0.take m' = b := by
        rw [← HBE.out]
        rcases Nat.le_total m0.length 300 with h4 | h4
        · rw [List.take_of_length_le (by omega), List.take_of_length_le h4]
        · rw [show m' = 300 by omega]
      rwa [e] at h2
    go_wp2_with fail
    go_loopg [6, 7, 8, 9] 64 (fun gk v6 v7 v8 _ wr => TwS w K gk v6 v7 v8 wr)
    case atStart => exact ⟨0, Nat.zero_le _, rfl, rfl, HR6.out, HR7.out, HDJ.out, HK2.out⟩
    case round =>
      obtain ⟨i, hi, hgk, rfl, hr6, hr7, hdj, hk⟩ := hrel
      have HG := Lib.hid hgk
      have R6 := Lib.hid hr6
      have R7 := Lib.hid hr7
      have DJ := Lib.hid hdj
      have KR := Lib.hid hk
      clear hgk hr6 hr7 hdj hk HR6 HR7 HDJ HK2 HRB2
      rcases Nat.lt_or_ge i 64 with hlt | hge
      · have ti : (i : Int) < 64 := by omega
        obtain ⟨A6, n6, c6, rfl⟩ := R6.out.slice
        obtain ⟨A7, n7, c7, rfl⟩ := R7.out.slice
        obtain ⟨y, hy⟩ : ∃ y, K.getD i 0 = y := ⟨_, rfl⟩
        have hx1 := xor_B8 y 54
        have hx2 := xor_B8 y 92
        rw [show (((54 : UInt8).toNat : Nat) : Int) = 54 from rfl] at hx1
        rw [show (((92 : UInt8).toNat : Nat) : Int) = 92 from rfl] at hx2
        have s1 := xpI_snoc K 54 i
        have s2 := xpI_snoc K 92 i
        rw [hy] at s1 s2
        have S1 := Lib.hid s1
        have S2 := Lib.hid s2
        have hylt := y.toNat_lt
        obtain ⟨yn, hyn⟩ : ∃ n, y.toNat = n := ⟨_, rfl⟩
        obtain ⟨z1, hz1⟩ : ∃ z, (y ^^^ 54).toNat = z := ⟨_, rfl⟩
        obtain ⟨z2, hz2⟩ : ∃ z, (y ^^^ 92).toNat = z := ⟨_, rfl⟩
        have B1 : Hid (B8 (y ^^^ 54) = .int .u8 (z1 : Int)) := Lib.hid (by unfold B8; rw [hz1])
        have B2 : Hid (B8 (y ^^^ 92) = .int .u8 (z2 : Int)) := Lib.hid (by unfold B8; rw [hz2])
        rw [hyn] at hx1 hx2 hylt
        rw [hz1] at hx1
        rw [hz2] at hx2
        have hl6 : ((b8s (xpI K 54 i)).length + 1) * 1 ≤ 140737488355328 := by rw [b8s_length, xpI_len]; omega
        have hl7 : ((b8s (xpI K 92 i)).length + 1) * 1 ≤ 140737488355328 := by rw [b8s_length, xpI_len]; omega
        have L6 := Lib.hid hl6
        have L7 := Lib.hid hl7
        have hsz := KR.out.size
        clear s1 s2 hz1 hz2 hl6 hl7
        rcases Nat.lt_or_ge i kn with hin | hout
        · obtain ⟨ad, u, hAd, hu, hcell⟩ := (HRAk.out _ KR.out).at_ (k := i) (by omega)
          have hiK : i < K.length := by rw [HKL.out]; omega
          rw [b8s_at K i hiK] at hu
          injection hu with hu
          have hKy : K[i] = y := by rw [← hy, List.getD_eq_getElem?_getD, List.getElem?_eq_getElem hiK]; rfl
          rw [hKy, hyn] at hu
          subst hu
          have tk : (i : Int) < ((kn : Nat) : Int) := by omega
          clear hKy hiK hy hyn
          subst hAd
          go_wp2_with (first
            | (at_builtin; refine wpList_app1 (W := wr) rfl _ _ 22 5 (.int .u8 0) 1 rfl Tryd.underlying22 cc_info rfl (by decide) (fun k => w.heap.size ≤ k) (.slice A6 n6 c6) (b8s (xpI K 54 i)) (.int .u8 (z1 : Int)) rfl rfl rfl R6.out (fun k hk => Nat.le_trans hsz hk) L6.out ?_; intro v10 w10 hrow10 hk10 hob10)
            | (at_builtin; refine wpList_app1 (W := w10) rfl _ _ 22 5 (.int .u8 0) 1 rfl Tryd.underlying22 cc_info rfl (by decide) (fun k => w.heap.size ≤ k) (.slice A7 n7 c7) (b8s (xpI K 92 i)) (.int .u8 (z2 : Int)) rfl rfl rfl (R7.out.kept_ hk10 (fun k h1 h2 => DJ.out k h2 h1)) (fun k hk => Nat.le_trans hsz (Nat.le_trans hk10.size hk)) L7.out ?_; intro v11 w11 hrow11 hk11 hob11))
          have r6 := hrow10.kept_ hk11 (fun k h1 h2 => (hob10 k h1).elim (fun h => DJ.out k h h2) (fun h => by have := R7.out.lt h2; omega))
          have dj : ∀ k, OB v10 k → ¬ OB v11 k := fun k h1 h2 => (hob11 k h2).elim (fun h => (hob10 k h1).elim (fun h' => DJ.out k h' h) (fun h' => by have := R7.out.lt h; omega)) (fun h => by have := hrow10.lt h1; omega)
          have kk := (KR.out.trans hk10 (fun k h => .inr (R6.out.2 k h))).trans hk11 (fun k h => .inr (R7.out.2 k h))
          have Q6 := Lib.hid r6
          have Q7 := Lib.hid hrow11
          have QD := Lib.hid dj
          have QK := Lib.hid kk
          clear hrow10 hk10 hob10 hrow11 hk11 hob11 r6 dj kk
          go_wp2_with fail
          go_roundg (64 - (i + 1))
          case measure => have := HG.out; omega
          case rel => exact ⟨i + 1, hlt, rfl, by go_num, by rw [S1.out, b8s_append]; simp only [b8s, List.map_cons, List.map_nil, B1.out]; exact Q6.out, by rw [S2.out, b8s_append]; simp only [b8s, List.map_cons, List.map_nil, B2.out]; exact Q7.out, QD.out, QK.out⟩
        · have hy0 : y = 0 := by rw [← hy, List.getD_eq_getElem?_getD, List.getElem?_eq_none (by rw [HKL.out]; omega)]; rfl
          have hyn0 : yn = 0 := by rw [← hyn, hy0]; rfl
          have B1' : Hid (B8 (y ^^^ 54) = .int .u8 54) := Lib.hid (by rw [hy0]; rfl)
          have B2' : Hid (B8 (y ^^^ 92) = .int .u8 92) := Lib.hid (by rw [hy0]; rfl)
          have tk : ¬ (i : Int) < (kn : Int) := by omega
          have hx1' : bits .xor .u8 0 54 = 54 := by decide
          have hx2' : bits .xor .u8 0 92 = 92 := by decide
          clear hx1 hx2 hyn0 hy0 hy hyn
          go_wp2_with (first
            | (at_builtin; refine wpList_app1 (W := wr) rfl _ _ 22 5 (.int .u8 0) 1 rfl Tryd.underlying22 cc_info rfl (by decide) (fun k => w.heap.size ≤ k) (.slice A6 n6 c6) (b8s (xpI K 54 i)) (.int .u8 54) rfl rfl rfl R6.out (fun k hk => Nat.le_trans hsz hk) L6.out ?_; intro v10 w10 hrow10 hk10 hob10)
            | (at_builtin; refine wpList_app1 (W := w10) rfl _ _ 22 5 (.int .u8 0) 1 rfl Tryd.underlying22 cc_info rfl (by decide) (fun k => w.heap.size ≤ k) (.slice A7 n7 c7) (b8s (xpI K 92 i)) (.int .u8 92) rfl rfl rfl (R7.out.kept_ hk10 (fun k h1 h2 => DJ.out k h2 h1)) (fun k hk => Nat.le_trans hsz (Nat.le_trans hk10.size hk)) L7.out ?_; intro v11 w11 hrow11 hk11 hob11))
          have r6 := hrow10.kept_ hk11 (fun k h1 h2 => (hob10 k h1).elim (fun h => DJ.out k h h2) (fun h => by have := R7.out.lt h2; omega))
          have dj : ∀ k, OB v10 k → ¬ OB v11 k := fun k h1 h2 => (hob11 k h2).elim (fun h => (hob10 k h1).elim (fun h' => DJ.out k h' h) (fun h' => by have := R7.out.lt h; omega)) (fun h => by have := hrow10.lt h1; omega)
          have kk := (KR.out.trans hk10 (fun k h => .inr (R6.out.2 k h))).trans hk11 (fun k h => .inr (R7.out.2 k h))
          have Q6 := Lib.hid r6
          have Q7 := Lib.hid hrow11
          have QD := Lib.hid dj
          have QK := Lib.hid kk
          clear hrow10 hk10 hob10 hrow11 hk11 hob11 r6 dj kk
          go_wp2_with fail
          go_roundg (64 - (i + 1))
          case measure => have := HG.out; omega
          case rel => exact ⟨i + 1, hlt, rfl, by go_num, by rw [S1.out, b8s_append]; simp only [b8s, List.map_cons, List.map_nil, B1'.out]; exact Q6.out, by rw [S2.out, b8s_append]; simp only [b8s, List.map_cons, List.map_nil, B2'.out]; exact Q7.out, QD.out, QK.out⟩
      · obtain rfl : i = 64 := by omega
        have ti : ¬ (64 : Int) < 64 := by omega
        rw [show xpI K 54 64 = xorK K 54 from rfl] at R6
        rw [show xpI K 92 64 = xorK K 92 from rfl] at R7
        have hsz := KR.out.size
        obtain ⟨A6, n6, c6, rfl⟩ := R6.out.slice
        obtain ⟨A7, n7, c7, rfl⟩ := R7.out.slice
        go_wp2_with (at_builtin; refine wpList_appN (W := wr) rfl _ _ 22 5 (.int .u8 0) 1 rfl Tryd.underlying22 cc_info rfl (by decide) (fun k => w.heap.size ≤ k) _ (.slice A6 n6 c6) (b8s (xorK K 54)) (b8s b) B m' c' rfl rfl cc_one R6.out (HRBk.out _ KR.out) (fun k hk => Nat.le_trans hsz hk) (by rw [b8s_length, xorK_len]; omega) ?_; intro v12 w12 hrow12 hk12 hob12)
        have r7 := R7.out.kept_ hk12 (fun k h1 h2 => DJ.out k h2 h1)
        have kk := KR.out.trans hk12 (fun k h => .inr (R6.out.2 k h))
        rw [← b8s_append] at hrow12
        obtain ⟨A8, c8, rfl, hc8, hm8⟩ := hrow12.shape
        have hrd := hrow12.reads'
        have hXl : (b8s (xorK K 54 ++ b)).length = 64 + m' := by rw [b8s_length, List.length_append, xorK_len, HBL.out]
        rw [hXl] at hc8 hrd ⊢
        obtain ⟨N, hN⟩ : ∃ N, 64 + m' = N := ⟨_, rfl⟩
        have hNb : N ≤ 364 := by omega
        rw [hN] at hc8 hrd ⊢
        unfold maxLen at hm8
        have hs := sum_any w12 _ A8 N c8 (xorK K 54 ++ b) hrd hc8 (by omega) hm8 (HC.out.kept0 kk)
        rw [HMf.out, HVf.out] at hs
        have HSf := Lib.hid hs
        have Q7 := Lib.hid r7
        have QK := Lib.hid kk
        clear r7 kk hrow12 hk12 hob12 hrd hXl hN hs
        go_wp2_with fail
        (with_reducible refine HSf.out.mono ?_)
        rintro en w13 ⟨rfl, hk⟩
        have K13 := Lib.hid (QK.out.trans' hk)
        have R13 := Lib.hid (Q7.out.kept0 hk)
        clear hk HSf Q7 QK R7 R6 DJ
        go_upto_region 16 with (fail)
        have K14 := Lib.hid (K13.out.alloc (.cells #[.int .u8 (f0.toNat : Int), .int .u8 (f1.toNat : Int), .int .u8 (f2.toNat : Int), .int .u8 (f3.toNat : Int), .int .u8 (f4.toNat : Int), .int .u8 (f5.toNat : Int), .int .u8 (f6.toNat : Int), .int .u8 (f7.toNat : Int), .int .u8 (f8.toNat : Int), .int .u8 (f9.toNat : Int), .int .u8 (f10.toNat : Int), .int .u8 (f11.toNat : Int), .int .u8 (f12.toNat : Int), .int .u8 (f13.toNat : Int), .int .u8 (f14.toNat : Int), .int .u8 (f15.toNat : Int)] 25))
        have R14 := Lib.hid (R13.out.alloc (.cells #[.int .u8 (f0.toNat : Int), .int .u8 (f1.toNat : Int), .int .u8 (f2.toNat : Int), .int .u8 (f3.toNat : Int), .int .u8 (f4.toNat : Int), .int .u8 (f5.toNat : Int), .int .u8 (f6.toNat : Int), .int .u8 (f7.toNat : Int), .int .u8 (f8.toNat : Int), .int .u8 (f9.toNat : Int), .int .u8 (f10.toNat : Int), .int .u8 (f11.toNat : Int), .int .u8 (f12.toNat : Int), .int .u8 (f13.toNat : Int), .int .u8 (f14.toNat : Int), .int .u8 (f15.toNat : Int)] 25))
        have hb14 := Blk.new w13 25 #[.int .u8 (f0.toNat : Int), .int .u8 (f1.toNat : Int), .int .u8 (f2.toNat : Int), .int .u8 (f3.toNat : Int), .int .u8 (f4.toNat : Int), .int .u8 (f5.toNat : Int), .int .u8 (f6.toNat : Int), .int .u8 (f7.toNat : Int), .int .u8 (f8.toNat : Int), .int .u8 (f9.toNat : Int), .int .u8 (f10.toNat : Int), .int .u8 (f11.toNat : Int), .int .u8 (f12.toNat : Int), .int .u8 (f13.toNat : Int), .int .u8 (f14.toNat : Int), .int .u8 (f15.toNat : Int)]
        have e14 : (#[.int .u8 (f0.toNat : Int), .int .u8 (f1.toNat : Int), .int .u8 (f2.toNat : Int), .int .u8 (f3.toNat : Int), .int .u8 (f4.toNat : Int), .int .u8 (f5.toNat : Int), .int .u8 (f6.toNat : Int), .int .u8 (f7.toNat : Int), .int .u8 (f8.toNat : Int), .int .u8 (f9.toNat : Int), .int .u8 (f10.toNat : Int), .int .u8 (f11.toNat : Int), .int .u8 (f12.toNat : Int), .int .u8 (f13.toNat : Int), .int .u8 (f14.toNat : Int), .int .u8 (f15.toNat : Int)] : Array Value) = (b8s Mf).toArray := by rw [HDf.out]; rfl
        generalize w13.alloc (.cells #[.int .u8 (f0.toNat : Int), .int .u8 (f1.toNat : Int), .int .u8 (f2.toNat : Int), .int .u8 (f3.toNat : Int), .int .u8 (f4.toNat : Int), .int .u8 (f5.toNat : Int), .int .u8 (f6.toNat : Int), .int .u8 (f7.toNat : Int), .int .u8 (f8.toNat : Int), .int .u8 (f9.toNat : Int), .int .u8 (f10.toNat : Int), .int .u8 (f11.toNat : Int), .int .u8 (f12.toNat : Int), .int .u8 (f13.toNat : Int), .int .u8 (f14.toNat : Int), .int .u8 (f15.toNat : Int)] 25) = W14 at *
        rw [e14] at hb14
        have HRD := Lib.hid (hm_reads hb14 16 HLf.out)
        clear hb14 e14
        obtain ⟨g10, hg10⟩ : ∃ g, w13.heap.size = g := ⟨_, rfl⟩
        rw [hg10] at HRD ⊢
        clear hg10 K13 R13
        have kk0 : Kept W14 W14.drew NoB := (Kept.refl W14 NoB).drew
        have hq := HQr.out
        have HH : Hid (∀ W, Kept W14 W NoB → Calls Tryd.prog 9 #[.slice A kn c, .slice B m' c'] W fun en w' => en = .returned (.agg cr.toArray) ∧ Kept W w' NoB) := Lib.hid fun W k => by
          have := hsum_calls W _ _ A kn c K B m' c' b (HRAk.out W (K14.out.trans' k)) (by omega) (by omega) hcb (HRBk.out W (K14.out.trans' k)) (by omega) (HC.out.kept0 (K14.out.trans' k))
          rw [HMr.out] at this
          rw [← HBr.out]
          exact this
        go_region_law (first
          | (refine step_appN (W := w15) (by simp [Region.wanted, yielded, Act.put]) (.tmp 52) (.tmp 53) 22 5 (.int .u8 0) 1 rfl Tryd.underlying22 cc_info rfl (by decide) (fun k => w.heap.size ≤ k) _ (.slice A7 n7 c7) (b8s (xorK K 92)) (b8s Mf) (some ⟨g10, 0, none⟩) 16 16 rfl rfl cc_one (R14.out.kept0 kk1) (HRD.out.kept0 kk1) (fun k hk => Nat.le_trans (K14.out.trans' kk1).size hk) (by rw [b8s_length, xorK_len]; omega) ?_; intro v16' w16 hrow16 hk16 hob16; have kk2 : Kept w w16 NoB := (K14.out.trans' kk1).trans hk16 (fun k hk => .inr ((R14.out.kept0 kk1).2 k hk)); rw [← b8s_append] at hrow16; obtain ⟨A16, c16, hv16, hc16, hm16⟩ := hrow16.shape; subst hv16; have hrd16 := hrow16.reads'; have hXl16 : (b8s (xorK K 92 ++ Mf)).length = 80 := (by rw [b8s_length, List.length_append, xorK_len, HLf.out]); rw [hXl16] at hrd16 hc16 ⊢)
          | (go_simp; go_at_call 9; (with_reducible refine (HH.out _ kk0).mono ?_); rintro en w15 ⟨rfl, hk15⟩; have kk1 := kk0.trans' hk15)
          | (go_simp; go_at_call 13; have hs17 := sum_any w16 _ A16 80 c16 (xorK K 92 ++ Mf) hrd16 hc16 (by omega) (by unfold maxLen at hm16; exact hm16) (HC.out.kept0 kk2); rw [HRE.out, show v16 Mr = .agg (b8s Mr).toArray from rfl, HBr.out] at hs17; (with_reducible refine hs17.mono ?_); rintro en w17 ⟨rfl, hk17⟩; clear hs17; have kk3 := kk2.trans' hk17))
        all_goals
          go_wp2_with fail
          go_ret
          exact ⟨rfl, kk3.below⟩
theorem hmacTwice_walk (W : World) (a0 : Option Addr) (len0 cap0 : Nat) (z0 : List Int) (a1 : Option Addr) (len1 cap1 : Nat) (z1 : List Int) (w0 : IsRow .u8 W a0 len0 cap0 z0) (_y0 : len0 * 1 ≤ 140737488351232) (w1 : IsRow .u8 W a1 len1 cap1 z1) (_y1 : len1 * 1 ≤ 140737488351232) (hL : laidMetH Tryd.prog Rows.hmacTwiceRow.laid W) (_hsh : W.ShapedOpen Tryd.prog) :
    Calls Tryd.prog 5 #[.slice a0 len0 cap0, .slice a1 len1 cap1] W fun en w' => en = .returned (.bool true) ∧ Below W.heap.size W w' :=
  hmtwice_law W a0 len0 cap0 _ w0.bytes_.2.1 w0.bytes_.2.2 w0.cap_le a1 len1 cap1 _ w1.bytes_.2.1 w1.bytes_.2.2 (SinC.of_laid hL)
end Go.Proofs.YtadmebonmfhpgaaDoor
