/- HmacKeys' walk. (Printed by gen_hmlaws.py.) -/
import Derived.Test.YtadmebonmfhpgaaDoorHmAll
import Derived.Deep.RegionHeld3
set_option linter.unusedVariables false
set_option linter.unusedSimpArgs false
namespace Go.Proofs.YtadmebonmfhpgaaDoor
open Go.RowKit Go.Shelf Go.Lib

theorem keyP_short2 {K : List UInt8} (h : K.length ≤ 64) : keyP K = K := by unfold keyP; rw [if_neg (by omega)]
theorem hmac_zeros (a b : List UInt8) (k : Nat) (h : a.length + k ≤ 64) : hmacP (a ++ List.replicate k 0) b = hmacP a b := by
  unfold hmacP
  rw [keyP_short2 (K := a ++ List.replicate k 0) (by rw [List.length_append, List.length_replicate]; exact h), keyP_short2 (K := a) (by omega), xorK_zeros, xorK_zeros]
theorem hmac_long (a b : List UInt8) (h : 64 < a.length) : hmacP (md5P a) b = hmacP a b := by
  unfold hmacP
  rw [keyP_short2 (K := md5P a) (by rw [hm_len16]; omega)]
  unfold keyP
  rw [if_pos h]
def KyS (w0 : World) (a : List UInt8) (x : Nat) (gk : Nat) (v12 v13 : Value) (wr : World) : Prop :=
  ∃ k, k ≤ x ∧ a.length + k ≤ 64 ∧ gk = 64 - k ∧ v13 = .int .i64 (k : Int) ∧ Row wr 5 (fun b => w0.heap.size ≤ b) v12 (b8s (a ++ List.replicate k 0)) ∧ Kept w0 wr NoB
set_option maxHeartbeats 16000000 in
set_option maxRecDepth 100000 in
theorem hmkeys_law (w : World) (A : Option Addr) (n c : Nat) (l0 : List UInt8) (hR : Reads w (fun k => k < w.heap.size) A n (b8s l0)) (hnc : n ≤ c) (hcb : c ≤ 9223372036854775807) (B : Option Addr) (n' c' : Nat) (m0 : List UInt8) (hS : Reads w (fun k => k < w.heap.size) B n' (b8s m0)) (hnc' : n' ≤ c') (x : Nat) (hx : x < 256) (hC : SinC w) :
    Calls Tryd.prog 4 #[.slice A n c, .slice B n' c', .int .u8 (x : Int)] w fun en w' => en = .returned (.bool true) ∧ Below w.heap.size w w' := by
  obtain ⟨a, ha⟩ : ∃ l, l0.take 300 = l := ⟨_, rfl⟩
  obtain ⟨b, hb⟩ : ∃ l, m0.take 300 = l := ⟨_, rfl⟩
  have HAE := Lib.hid ha
  have HBE := Lib.hid hb
  have HR := Lib.hid hR
  have HS := Lib.hid hS
  have HC := Lib.hid hC
  clear ha hb hR hS hC
  have hlr := hmac_len a b
  obtain ⟨Mr, hMr⟩ : ∃ M, hmacP a b = M := ⟨_, rfl⟩
  rw [hMr] at hlr
  obtain ⟨cr, hcr⟩ : ∃ c, b8s Mr = c := ⟨_, rfl⟩
  have HMr := Lib.hid hMr
  have HLr := Lib.hid hlr
  have HBr := Lib.hid hcr
  clear hlr hMr hcr
  obtain ⟨r0, r1, r2, r3, r4, r5, r6, r7, r8, r9, r10, r11, r12, r13, r14, r15, hdr, hvr⟩ := hm_v16 Mr HLr.out
  have HDr := Lib.hid hdr
  have HVr := Lib.hid hvr
  clear hdr hvr
  have HQr : Hid (∀ W : World, (Op.equalIn 10000 25 (.agg cr.toArray) (.agg cr.toArray)).run Tryd.prog W = .ok true W) := Lib.hid fun W => by
    have := eq16 W Mr Mr HLr.out HLr.out
    rw [beq_self_eq_true] at this
    rw [← HBr.out]
    exact this
  have hld := hm_len16 a
  obtain ⟨Md, hMd⟩ : ∃ M, md5P a = M := ⟨_, rfl⟩
  rw [hMd] at hld
  obtain ⟨cd, hcd⟩ : ∃ c, b8s Md = c := ⟨_, rfl⟩
  have HMd := Lib.hid hMd
  have HLd := Lib.hid hld
  have HBd := Lib.hid hcd
  clear hld hMd hcd
  obtain ⟨d0, d1, d2, d3, d4, d5, d6, d7, d8, d9, d10, d11, d12, d13, d14, d15, hdd, hvd⟩ := hm_v16 Md HLd.out
  have HDd := Lib.hid hdd
  have HVd := Lib.hid hvd
  clear hdd hvd
  go_enter Tryd.func4, Tryd.ntmps4
  go_wp2_with fail
  refine (shown_calls w HC.out).mono ?_
  rintro en w1 ⟨rfl, hk⟩
  have HK1 := Lib.hid hk
  clear hk
  go_wp2_with fail
  refine (short_calls w1 _ A n c l0 (HR.out.kept0 HK1.out) hnc).mono ?_
  rintro en w1' ⟨m, rfl, rfl, hmc, hm6, hrd⟩
  rw [HAE.out] at hrd
  have HRA := Lib.hid hrd
  have HML : Hid (a.length = m) := Lib.hid (by have := hrd.1; rwa [b8s_length] at this)
  clear hrd
  go_wp2_with fail
  refine (short_calls w1' _ B n' c' m0 (HS.out.kept0 HK1.out) hnc').mono ?_
  rintro en w2 ⟨m', rfl, rfl, hmc', hm6', hrd⟩
  rw [HBE.out] at hrd
  have HRB := Lib.hid hrd
  clear hrd
  have HCA : Hid (∀ W, Kept w2 W NoB → (convert 22 9 (.slice A m c)).run Tryd.prog W = .ok (.string (strB a)) W) := Lib.hid fun W k => (HRA.out.kept0 k).string 22 5 9 Tryd.underlying22 Tryd.underlying5 Tryd.underlying9 c
  have HCB : Hid (∀ W, Kept w2 W NoB → (convert 22 9 (.slice B m' c')).run Tryd.prog W = .ok (.string (strB b)) W) := Lib.hid fun W k => (HRB.out.kept0 k).string 22 5 9 Tryd.underlying22 Tryd.underlying5 Tryd.underlying9 c'
  have HSr : Hid (∀ W, Kept w2 W NoB → Calls Tryd.prog 9 #[.slice A m c, .slice B m' c'] W fun en w' => en = .returned (.agg #[.int .u8 (r0.toNat : Int), .int .u8 (r1.toNat : Int), .int .u8 (r2.toNat : Int), .int .u8 (r3.toNat : Int), .int .u8 (r4.toNat : Int), .int .u8 (r5.toNat : Int), .int .u8 (r6.toNat : Int), .int .u8 (r7.toNat : Int), .int .u8 (r8.toNat : Int), .int .u8 (r9.toNat : Int), .int .u8 (r10.toNat : Int), .int .u8 (r11.toNat : Int), .int .u8 (r12.toNat : Int), .int .u8 (r13.toNat : Int), .int .u8 (r14.toNat : Int), .int .u8 (r15.toNat : Int)]) ∧ Kept W w' NoB) := Lib.hid fun W k => by
    have := hsum_calls W _ _ A m c a B m' c' b (HRA.out.kept0 k) (by omega) hmc hcb (HRB.out.kept0 k) (by omega) (HC.out.kept0 (HK1.out.trans' k))
    rw [HMr.out, HVr.out] at this
    exact this
  have hca := HCA.out w2 (Kept.refl _ _)
  have hcbb := HCB.out w2 (Kept.refl _ _)
  go_wp2_with fail
  clear hca hcbb
  (with_reducible refine (HSr.out w2 (Kept.refl _ _)).mono ?_)
  rintro en w3 ⟨rfl, hk⟩
  have HZ3 := Lib.hid hk
  clear hk
  go_upto_region 7 with (fail)
  have HZ4 := Lib.hid (HZ3.out.alloc (.cells #[.int .u8 (r0.toNat : Int), .int .u8 (r1.toNat : Int), .int .u8 (r2.toNat : Int), .int .u8 (r3.toNat : Int), .int .u8 (r4.toNat : Int), .int .u8 (r5.toNat : Int), .int .u8 (r6.toNat : Int), .int .u8 (r7.toNat : Int), .int .u8 (r8.toNat : Int), .int .u8 (r9.toNat : Int), .int .u8 (r10.toNat : Int), .int .u8 (r11.toNat : Int), .int .u8 (r12.toNat : Int), .int .u8 (r13.toNat : Int), .int .u8 (r14.toNat : Int), .int .u8 (r15.toNat : Int)] 25))
  have hb4 := Blk.new w3 25 #[.int .u8 (r0.toNat : Int), .int .u8 (r1.toNat : Int), .int .u8 (r2.toNat : Int), .int .u8 (r3.toNat : Int), .int .u8 (r4.toNat : Int), .int .u8 (r5.toNat : Int), .int .u8 (r6.toNat : Int), .int .u8 (r7.toNat : Int), .int .u8 (r8.toNat : Int), .int .u8 (r9.toNat : Int), .int .u8 (r10.toNat : Int), .int .u8 (r11.toNat : Int), .int .u8 (r12.toNat : Int), .int .u8 (r13.toNat : Int), .int .u8 (r14.toNat : Int), .int .u8 (r15.toNat : Int)]
  have e4 : (#[.int .u8 (r0.toNat : Int), .int .u8 (r1.toNat : Int), .int .u8 (r2.toNat : Int), .int .u8 (r3.toNat : Int), .int .u8 (r4.toNat : Int), .int .u8 (r5.toNat : Int), .int .u8 (r6.toNat : Int), .int .u8 (r7.toNat : Int), .int .u8 (r8.toNat : Int), .int .u8 (r9.toNat : Int), .int .u8 (r10.toNat : Int), .int .u8 (r11.toNat : Int), .int .u8 (r12.toNat : Int), .int .u8 (r13.toNat : Int), .int .u8 (r14.toNat : Int), .int .u8 (r15.toNat : Int)] : Array Value) = cr.toArray := by rw [← HBr.out, HDr.out]; rfl
  generalize w3.alloc (.cells #[.int .u8 (r0.toNat : Int), .int .u8 (r1.toNat : Int), .int .u8 (r2.toNat : Int), .int .u8 (r3.toNat : Int), .int .u8 (r4.toNat : Int), .int .u8 (r5.toNat : Int), .int .u8 (r6.toNat : Int), .int .u8 (r7.toNat : Int), .int .u8 (r8.toNat : Int), .int .u8 (r9.toNat : Int), .int .u8 (r10.toNat : Int), .int .u8 (r11.toNat : Int), .int .u8 (r12.toNat : Int), .int .u8 (r13.toNat : Int), .int .u8 (r14.toNat : Int), .int .u8 (r15.toNat : Int)] 25) = W4 at *
  rw [e4] at hb4
  have HN4 := Lib.hid hb4
  clear hb4 e4
  obtain ⟨g10, hg10⟩ : ∃ g, w3.heap.size = g := ⟨_, rfl⟩
  rw [hg10] at HN4 ⊢
  clear hg10
  have hcl : cr.length = 16 := by rw [← HBr.out, b8s_length, HLr.out]
  have hrg : ∀ W, Blk W g10 25 cr.toArray → W.rangeAt g10 0 cr := fun W hb j v hv => by
    rw [Nat.zero_add, hb.cell, List.getElem?_toArray, hv]
  have HRG := Lib.hid hrg
  have hinf : (Tryd.prog.info? 25).map (·.size) = some cr.length := by rw [hcl]; kernel_rfl
  have hund := Tryd.underlying25
  have HCL := Lib.hid hcl
  clear hrg hcl
  have hbA := strB_beqI a
  have hbB := strB_beqI b
  by_cases hbig : 64 < m
  · have t0 : (64 : Int) < (m : Int) := by omega
    have hs := sum_any W4 _ A m c a (HRA.out.kept0 HZ4.out) hmc (by omega) hcb (HC.out.kept0 (HK1.out.trans' HZ4.out))
    rw [HMd.out, HVd.out] at hs
    have HSd := Lib.hid hs
    clear hs
    go_wp2_with fail
    (with_reducible refine HSd.out.mono ?_)
    rintro en w5 ⟨rfl, hk⟩
    have HZ5 := Lib.hid (HZ4.out.trans' hk)
    have HN5 := Lib.hid (HN4.out.kept0 hk)
    clear hk HSd HZ4 HN4 HZ3
    go_upto_region 9 with (fail)
    have HZ6 := Lib.hid (HZ5.out.alloc (.cells #[.int .u8 (d0.toNat : Int), .int .u8 (d1.toNat : Int), .int .u8 (d2.toNat : Int), .int .u8 (d3.toNat : Int), .int .u8 (d4.toNat : Int), .int .u8 (d5.toNat : Int), .int .u8 (d6.toNat : Int), .int .u8 (d7.toNat : Int), .int .u8 (d8.toNat : Int), .int .u8 (d9.toNat : Int), .int .u8 (d10.toNat : Int), .int .u8 (d11.toNat : Int), .int .u8 (d12.toNat : Int), .int .u8 (d13.toNat : Int), .int .u8 (d14.toNat : Int), .int .u8 (d15.toNat : Int)] 25))
    have HN := Lib.hid (HN5.out.alloc (.cells #[.int .u8 (d0.toNat : Int), .int .u8 (d1.toNat : Int), .int .u8 (d2.toNat : Int), .int .u8 (d3.toNat : Int), .int .u8 (d4.toNat : Int), .int .u8 (d5.toNat : Int), .int .u8 (d6.toNat : Int), .int .u8 (d7.toNat : Int), .int .u8 (d8.toNat : Int), .int .u8 (d9.toNat : Int), .int .u8 (d10.toNat : Int), .int .u8 (d11.toNat : Int), .int .u8 (d12.toNat : Int), .int .u8 (d13.toNat : Int), .int .u8 (d14.toNat : Int), .int .u8 (d15.toNat : Int)] 25))
    have hb6 := Blk.new w5 25 #[.int .u8 (d0.toNat : Int), .int .u8 (d1.toNat : Int), .int .u8 (d2.toNat : Int), .int .u8 (d3.toNat : Int), .int .u8 (d4.toNat : Int), .int .u8 (d5.toNat : Int), .int .u8 (d6.toNat : Int), .int .u8 (d7.toNat : Int), .int .u8 (d8.toNat : Int), .int .u8 (d9.toNat : Int), .int .u8 (d10.toNat : Int), .int .u8 (d11.toNat : Int), .int .u8 (d12.toNat : Int), .int .u8 (d13.toNat : Int), .int .u8 (d14.toNat : Int), .int .u8 (d15.toNat : Int)]
    have e6 : (#[.int .u8 (d0.toNat : Int), .int .u8 (d1.toNat : Int), .int .u8 (d2.toNat : Int), .int .u8 (d3.toNat : Int), .int .u8 (d4.toNat : Int), .int .u8 (d5.toNat : Int), .int .u8 (d6.toNat : Int), .int .u8 (d7.toNat : Int), .int .u8 (d8.toNat : Int), .int .u8 (d9.toNat : Int), .int .u8 (d10.toNat : Int), .int .u8 (d11.toNat : Int), .int .u8 (d12.toNat : Int), .int .u8 (d13.toNat : Int), .int .u8 (d14.toNat : Int), .int .u8 (d15.toNat : Int)] : Array Value) = (b8s Md).toArray := by rw [HDd.out]; rfl
    generalize w5.alloc (.cells #[.int .u8 (d0.toNat : Int), .int .u8 (d1.toNat : Int), .int .u8 (d2.toNat : Int), .int .u8 (d3.toNat : Int), .int .u8 (d4.toNat : Int), .int .u8 (d5.toNat : Int), .int .u8 (d6.toNat : Int), .int .u8 (d7.toNat : Int), .int .u8 (d8.toNat : Int), .int .u8 (d9.toNat : Int), .int .u8 (d10.toNat : Int), .int .u8 (d11.toNat : Int), .int .u8 (d12.toNat : Int), .int .u8 (d13.toNat : Int), .int .u8 (d14.toNat : Int), .int .u8 (d15.toNat : Int)] 25) = W6 at *
    rw [e6] at hb6
    have HRD := Lib.hid (hm_reads hb6 16 HLd.out)
    clear hb6 e6 HZ5 HN5
    obtain ⟨g11, hg11⟩ : ∃ g, w5.heap.size = g := ⟨_, rfl⟩
    rw [hg11] at HRD ⊢
    clear hg11
    have HSS : Hid (∀ W, Kept W6 W NoB → Calls Tryd.prog 9 #[.slice (some ⟨g11, 0, none⟩) 16 16, .slice B m' c'] W fun en w' => en = .returned (.agg cr.toArray) ∧ Kept W w' NoB) := Lib.hid fun W k => by
      have := hsum_calls W _ _ (some ⟨g11, 0, none⟩) 16 16 Md B m' c' b (HRD.out.kept0 k) (by omega) (by omega) (by omega) ((HRB.out.kept0 HZ6.out).kept0 k) (by omega) (HC.out.kept0 ((HK1.out.trans' HZ6.out).trans' k))
      rw [← HMd.out, hmac_long a b (by rw [HML.out]; exact hbig), HMr.out] at this
      rw [← HBr.out]
      exact this
    have kk0' : Kept W6 W6.drew NoB := (Kept.refl W6 NoB).drew
    have kk0 := HZ6.out.trans' kk0'
    have hq := HQr.out
    have g0 := HRG.out _ (HN.out.kept0 kk0')
    go_region_held3 (fun w' => Kept w2 w' NoB ∧ w'.rangeAt g10 0 cr ∧ (convert 22 9 (.slice A m c)).run Tryd.prog w' = .ok (.string (strB a)) w' ∧ (convert 22 9 (.slice B m' c')).run Tryd.prog w' = .ok (.string (strB b)) w') (first | exact ⟨kk0, HRG.out _ (HN.out.kept0 kk0'), HCA.out _ kk0, HCB.out _ kk0⟩ | exact ⟨kk1, HRG.out _ (HN.out.kept0 kk1'), HCA.out _ kk1, HCB.out _ kk1⟩) (first
      | (go_at_call 9; (with_reducible refine (HSS.out _ kk0').mono ?_); rintro en w7 ⟨rfl, hk7⟩; have kk1' := kk0'.trans' hk7; have kk1 := HZ6.out.trans' kk1'))
    have K7 := Lib.hid (HK1.out.trans' kk1)
    clear kk0 kk0' kk1 kk1' hk7 hq g0
    go_wp2_with fail
    go_ret
    exact ⟨rfl, K7.out.below⟩
  · have t0 : ¬ (64 : Int) < (m : Int) := by omega
    have hszw : w.heap.size ≤ W4.heap.size := (HK1.out.trans' HZ4.out).size
    go_wp2_with (at_builtin; refine wpList_appN (W := W4.alloc (.cells #[] 5)) rfl _ _ 22 5 (.int .u8 0) 1 rfl Tryd.underlying22 cc_info rfl (by decide) (fun k => w2.heap.size ≤ k) _ (.slice (some ⟨W4.heap.size, 0, none⟩) 0 0) [] (b8s a) A m c rfl rfl cc_one (Row.made0 W4 5 _ HZ4.out.size) ((HRA.out.kept0 HZ4.out).alloc _) (fun k hk => by have := HZ4.out.size; simp at hk; omega) (by simp; omega) ?_; intro v5 w5 hrow5 hk5 hob5)
    have hk45 : Kept W4 w5 NoB := ((Kept.refl W4 NoB).alloc (.cells #[] 5)).trans hk5 (fun k hk => .inr (by have := ob_lit hk; omega))
    rw [List.nil_append] at hrow5
    have HZ5 := Lib.hid (HZ4.out.trans' hk45)
    have HN5 := Lib.hid (HN4.out.kept0 hk45)
    have h108 : g10 < W4.heap.size := HN4.out.lt
    have HR5 : Hid (Row w5 5 (fun k => W4.heap.size ≤ k) v5 (b8s a)) := Lib.hid ⟨hrow5.1, fun k hk => (hob5 k hk).elim (fun h => by have := ob_lit h; omega) (fun h => by simp at h; omega)⟩
    have HKW := Lib.hid hk45
    clear hk45 hrow5 hk5 hob5 HZ3
    go_wp2_with fail
    go_loopg [12, 13] 64 (fun gk v12 v13 wr => KyS W4 a x gk v12 v13 wr)
    case atStart => exact ⟨0, Nat.zero_le _, by rw [HML.out]; omega, rfl, rfl, by simpa using HR5.out, HKW.out⟩
    case round =>
      obtain ⟨k, hkx, hk64, hgk, rfl, hrow, hk⟩ := hrel
      have HG := Lib.hid hgk
      have HROW := Lib.hid hrow
      have HKR := Lib.hid hk
      rw [HML.out] at hk64
      obtain ⟨A6, c6, rfl, hc6, hm6x⟩ := hrow.shape
      have hlen : (b8s (a ++ List.replicate k 0)).length = m + k := by rw [b8s_length, List.length_append, List.length_replicate, HML.out]
      rw [hlen] at hc6 HROW ⊢
      obtain ⟨N, hN⟩ : ∃ N, m + k = N := ⟨_, rfl⟩
      rw [hN] at hc6 HROW hk64 ⊢
      have HNN := Lib.hid hN
      have HB : Hid (((b8s (a ++ List.replicate k 0)).length + 1) * 1 ≤ 140737488355328) := Lib.hid (by rw [hlen]; omega)
      have hszd := hk.size
      unfold maxLen at hm6x
      clear hgk hrow hk hlen hN
      by_cases hgo : k < x ∧ N < 64
      · have t1 : (k : Int) < (x : Int) := by omega
        have t2 : (N : Int) < 64 := by omega
        go_wp2_with (at_builtin; refine wpList_app1 (W := wr) rfl _ _ 22 5 (.int .u8 0) 1 rfl Tryd.underlying22 cc_info rfl (by decide) (fun b => W4.heap.size ≤ b) (.slice A6 N c6) (b8s (a ++ List.replicate k 0)) (.int .u8 0) rfl rfl rfl HROW.out (fun k hk => Nat.le_trans hszd hk) HB.out ?_; intro v7 w7 hrow7 hk7 hob7)
        have HK7 := Lib.hid (HKR.out.trans hk7 fun b hb => .inr (HROW.out.2 b hb))
        have hz : b8s (a ++ List.replicate k 0) ++ [.int .u8 0] = b8s (a ++ List.replicate (k + 1) 0) := by rw [List.replicate_succ', ← List.append_assoc, b8s_append (a ++ List.replicate k 0)]; rfl
        rw [hz] at hrow7
        have HR7 := Lib.hid hrow7
        clear hrow7 hk7 hob7 hz
        go_wp2_with fail
        go_roundg (64 - (k + 1))
        case measure => have := HG.out; have := HNN.out; omega
        case rel => exact ⟨k + 1, by omega, by rw [HML.out]; have := HNN.out; omega, rfl, by go_num, HR7.out, HK7.out⟩
      · have hor : ¬ k < x ∨ (k < x ∧ ¬ N < 64) := by omega
        have HZ := Lib.hid (HZ4.out.trans' HKR.out)
        have HN := Lib.hid (HN4.out.kept0 HKR.out)
        have hrd := HROW.out.reads'
        have hl0 : (b8s (a ++ List.replicate k 0)).length = N := by rw [b8s_length, List.length_append, List.length_replicate, HML.out, HNN.out]
        rw [hl0] at hrd
        have HRM := Lib.hid hrd
        clear hrd hl0 HB
        rcases hor with h5 | ⟨h5, h6⟩
        · have t1 : ¬ (k : Int) < (x : Int) := by omega
          have t1' := decide_eq_false t1
          have HSS : Hid (∀ W, Kept wr W NoB → Calls Tryd.prog 9 #[.slice A6 N c6, .slice B m' c'] W fun en w' => en = .returned (.agg cr.toArray) ∧ Kept W w' NoB) := Lib.hid fun W k2 => by
            have := hsum_calls W _ _ A6 N c6 (a ++ List.replicate k 0) B m' c' b (HRM.out.kept0 k2) (by omega) hc6 hm6x ((HRB.out.kept0 HZ.out).kept0 k2) (by omega) (HC.out.kept0 ((HK1.out.trans' HZ.out).trans' k2))
            rw [hmac_zeros a b k (by rw [HML.out, HNN.out]; exact hk64), HMr.out] at this
            rw [← HBr.out]
            exact this
          have HHX : Hid (∀ W, Kept wr W NoB → Calls Tryd.prog 11 #[.slice A m c, .slice B m' c'] W fun en w' => en = .returned (.string (strB (hexL Mr))) ∧ Kept W w' NoB) := Lib.hid fun W k2 => by
            have := hhex_calls W _ _ A m c a B m' c' b ((HRA.out.kept0 HZ.out).kept0 k2) (by omega) hmc hcb ((HRB.out.kept0 HZ.out).kept0 k2) (by omega) (HC.out.kept0 ((HK1.out.trans' HZ.out).trans' k2))
            rw [HMr.out] at this
            exact this
          have HDX : Hid (∀ W, Kept wr W NoB → Calls Tryd.prog 14 #[.slice (some ⟨g10, 0, none⟩) 16 16] W fun en w' => en = .returned (.string (strB (hexL Mr))) ∧ Kept W w' NoB) := Lib.hid fun W k2 => hex_calls W _ _ 16 16 Mr (hm_reads (t := 25) (by rw [HBr.out]; exact HN.out.kept0 k2) 16 HLr.out) (by omega)
          have hxb := strB_beqI (hexL Mr)
          go_upto_region 15 with (fail)
          have kk0' : Kept wr wr.drew NoB := (Kept.refl wr NoB).drew
          have kk0 := HZ.out.trans' kk0'
          have hq := HQr.out
          have g0 := HRG.out _ (HN.out.kept0 kk0')
          go_region_held3 (fun w' => Kept w2 w' NoB ∧ w'.rangeAt g10 0 cr ∧ (convert 22 9 (.slice A m c)).run Tryd.prog w' = .ok (.string (strB a)) w' ∧ (convert 22 9 (.slice B m' c')).run Tryd.prog w' = .ok (.string (strB b)) w') (first | exact ⟨kk0, HRG.out _ (HN.out.kept0 kk0'), HCA.out _ kk0, HCB.out _ kk0⟩ | exact ⟨kk1, HRG.out _ (HN.out.kept0 kk1'), HCA.out _ kk1, HCB.out _ kk1⟩ | exact ⟨kk2, HRG.out _ (HN.out.kept0 kk2'), HCA.out _ kk2, HCB.out _ kk2⟩ | exact ⟨kk3, HRG.out _ (HN.out.kept0 kk3'), HCA.out _ kk3, HCB.out _ kk3⟩) (first
            | (go_at_call 9; (with_reducible refine (HSS.out _ kk0').mono ?_); rintro en w7 ⟨rfl, hk7⟩; have kk1' := kk0'.trans' hk7; have kk1 := HZ.out.trans' kk1')
            | (go_at_call 11; (with_reducible refine (HHX.out _ kk1').mono ?_); rintro en w8 ⟨rfl, hk8⟩; have kk2' := kk1'.trans' hk8; have kk2 := HZ.out.trans' kk2')
            | (go_at_call 14; (with_reducible refine (HDX.out _ kk2').mono ?_); rintro en w9 ⟨rfl, hk9⟩; have kk3' := kk2'.trans' hk9; have kk3 := HZ.out.trans' kk3'))
          have K9 := Lib.hid (HK1.out.trans' kk3)
          clear kk0 kk0' kk1 kk1' kk2 kk2' kk3 kk3' hk7 hk8 hk9 hq g0
          go_wp2_with fail
          go_ret
          exact ⟨rfl, K9.out.below⟩
        · have t1 : (k : Int) < (x : Int) := by omega
          have t2 : ¬ (N : Int) < 64 := by omega
          have t2' := decide_eq_false t2
          have HSS : Hid (∀ W, Kept wr W NoB → Calls Tryd.prog 9 #[.slice A6 N c6, .slice B m' c'] W fun en w' => en = .returned (.agg cr.toArray) ∧ Kept W w' NoB) := Lib.hid fun W k2 => by
            have := hsum_calls W _ _ A6 N c6 (a ++ List.replicate k 0) B m' c' b (HRM.out.kept0 k2) (by omega) hc6 hm6x ((HRB.out.kept0 HZ.out).kept0 k2) (by omega) (HC.out.kept0 ((HK1.out.trans' HZ.out).trans' k2))
            rw [hmac_zeros a b k (by rw [HML.out, HNN.out]; exact hk64), HMr.out] at this
            rw [← HBr.out]
            exact this
          have HHX : Hid (∀ W, Kept wr W NoB → Calls Tryd.prog 11 #[.slice A m c, .slice B m' c'] W fun en w' => en = .returned (.string (strB (hexL Mr))) ∧ Kept W w' NoB) := Lib.hid fun W k2 => by
            have := hhex_calls W _ _ A m c a B m' c' b ((HRA.out.kept0 HZ.out).kept0 k2) (by omega) hmc hcb ((HRB.out.kept0 HZ.out).kept0 k2) (by omega) (HC.out.kept0 ((HK1.out.trans' HZ.out).trans' k2))
            rw [HMr.out] at this
            exact this
          have HDX : Hid (∀ W, Kept wr W NoB → Calls Tryd.prog 14 #[.slice (some ⟨g10, 0, none⟩) 16 16] W fun en w' => en = .returned (.string (strB (hexL Mr))) ∧ Kept W w' NoB) := Lib.hid fun W k2 => hex_calls W _ _ 16 16 Mr (hm_reads (t := 25) (by rw [HBr.out]; exact HN.out.kept0 k2) 16 HLr.out) (by omega)
          have hxb := strB_beqI (hexL Mr)
          go_upto_region 15 with (fail)
          have kk0' : Kept wr wr.drew NoB := (Kept.refl wr NoB).drew
          have kk0 := HZ.out.trans' kk0'
          have hq := HQr.out
          have g0 := HRG.out _ (HN.out.kept0 kk0')
          go_region_held3 (fun w' => Kept w2 w' NoB ∧ w'.rangeAt g10 0 cr ∧ (convert 22 9 (.slice A m c)).run Tryd.prog w' = .ok (.string (strB a)) w' ∧ (convert 22 9 (.slice B m' c')).run Tryd.prog w' = .ok (.string (strB b)) w') (first | exact ⟨kk0, HRG.out _ (HN.out.kept0 kk0'), HCA.out _ kk0, HCB.out _ kk0⟩ | exact ⟨kk1, HRG.out _ (HN.out.kept0 kk1'), HCA.out _ kk1, HCB.out _ kk1⟩ | exact ⟨kk2, HRG.out _ (HN.out.kept0 kk2'), HCA.out _ kk2, HCB.out _ kk2⟩ | exact ⟨kk3, HRG.out _ (HN.out.kept0 kk3'), HCA.out _ kk3, HCB.out _ kk3⟩) (first
            | (go_at_call 9; (with_reducible refine (HSS.out _ kk0').mono ?_); rintro en w7 ⟨rfl, hk7⟩; have kk1' := kk0'.trans' hk7; have kk1 := HZ.out.trans' kk1')
            | (go_at_call 11; (with_reducible refine (HHX.out _ kk1').mono ?_); rintro en w8 ⟨rfl, hk8⟩; have kk2' := kk1'.trans' hk8; have kk2 := HZ.out.trans' kk2')
            | (go_at_call 14; (with_reducible refine (HDX.out _ kk2').mono ?_); rintro en w9 ⟨rfl, hk9⟩; have kk3' := kk2'.trans' hk9; have kk3 := HZ.out.trans' kk3'))
          have K9 := Lib.hid (HK1.out.trans' kk3)
          clear kk0 kk0' kk1 kk1' kk2 kk2' kk3 kk3' hk7 hk8 hk9 hq g0
          go_wp2_with fail
          go_ret
          exact ⟨rfl, K9.out.below⟩
theorem hmacKeys_walk (W : World) (a0 : Option Addr) (len0 cap0 : Nat) (z0 : List Int) (a1 : Option Addr) (len1 cap1 : Nat) (z1 : List Int) (a2 : Int) (w0 : IsRow .u8 W a0 len0 cap0 z0) (_y0 : len0 * 1 ≤ 140737488351232) (w1 : IsRow .u8 W a1 len1 cap1 z1) (_y1 : len1 * 1 ≤ 140737488351232) (w2 : (Lit.int .u8 a2).wf = true) (hL : laidMetH Tryd.prog Rows.hmacKeysRow.laid W) (_hsh : W.ShapedOpen Tryd.prog) :
    Calls Tryd.prog 4 #[.slice a0 len0 cap0, .slice a1 len1 cap1, .int .u8 a2] W fun en w' => en = .returned (.bool true) ∧ Below W.heap.size W w' := by
  have h2 : 0 ≤ a2 ∧ a2 ≤ 255 := by simpa [Lit.wf, IntKind.min, IntKind.max, IntKind.signed, IntKind.bits] using w2
  have h := hmkeys_law W a0 len0 cap0 _ w0.bytes_.2.1 w0.bytes_.2.2 w0.cap_le a1 len1 cap1 _ w1.bytes_.2.1 w1.bytes_.2.2 a2.toNat (by omega) (SinC.of_laid hL)
  rwa [Int.toNat_of_nonneg h2.1] at h
end Go.Proofs.YtadmebonmfhpgaaDoor
