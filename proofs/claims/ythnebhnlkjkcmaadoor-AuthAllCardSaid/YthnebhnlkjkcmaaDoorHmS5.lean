/- hmac.Sum, hmac.Hex; the reference's Sum and Hex. (Printed by gen_hms.py.) -/
import Derived.Test.YthnebhnlkjkcmaaDoorUnder5
import Derived.Test.YthnebhnlkjkcmaaDoorHmR5
import Derived.Deep.RegionHeld3
set_option linter.unusedVariables false
set_option linter.unusedSimpArgs false
namespace Go.Proofs.YthnebhnlkjkcmaaDoor
open Go.RowKit

theorem hmac_len (key b : List UInt8) : (hmacP key b).length = 16 := hm_len16 _
set_option maxHeartbeats 8000000 in
set_option maxRecDepth 100000 in
theorem hsum_calls (w : World) (S T : Nat → Prop) (A : Option Addr) (n c : Nat) (key : List UInt8) (B : Option Addr) (m d : Nat) (b : List UInt8)
    (hA : Reads w S A n (b8s key)) (hn : n ≤ 1099511627) (hnc : n ≤ c) (hcb : c ≤ 9223372036854775807) (hB : Reads w T B m (b8s b)) (hm : m ≤ 1099511627) (hC : SinC w) :
    Calls Tryd.prog 42 #[.slice A n c, .slice B m d] w fun en w' => en = .returned (v16 (hmacP key b)) ∧ Kept w w' NoB := by
  have hkl : key.length = n := by have := hA.1; rwa [b8s_length] at this
  have hkp : keyP key = if 64 < n then md5P key else key := by rw [← hkl]; rfl
  have HKP := Lib.hid hkp
  have HKL := Lib.hid hkl
  have HA := Lib.hid hA
  have HB := Lib.hid hB
  have HC := Lib.hid hC
  clear hA hB hC hkl hkp
  go_enter Tryd.func42, Tryd.ntmps42
  go_upto_region 1 with (fail)
  have HK0 := Lib.hid (((Kept.refl w NoB).alloc (.cells #[.slice A n c] 27)).alloc (.cells #[.int .u8 0, .int .u8 0, .int .u8 0, .int .u8 0, .int .u8 0, .int .u8 0, .int .u8 0, .int .u8 0, .int .u8 0, .int .u8 0, .int .u8 0, .int .u8 0, .int .u8 0, .int .u8 0, .int .u8 0, .int .u8 0] 48))
  have HG0 := Lib.hid ((Blk.new w 27 #[.slice A n c]).alloc (.cells #[.int .u8 0, .int .u8 0, .int .u8 0, .int .u8 0, .int .u8 0, .int .u8 0, .int .u8 0, .int .u8 0, .int .u8 0, .int .u8 0, .int .u8 0, .int .u8 0, .int .u8 0, .int .u8 0, .int .u8 0, .int .u8 0] 48))
  have hb0 := Blk.new (w.alloc (.cells #[.slice A n c] 27)) 48 #[.int .u8 0, .int .u8 0, .int .u8 0, .int .u8 0, .int .u8 0, .int .u8 0, .int .u8 0, .int .u8 0, .int .u8 0, .int .u8 0, .int .u8 0, .int .u8 0, .int .u8 0, .int .u8 0, .int .u8 0, .int .u8 0]
  rw [show (w.alloc (.cells #[.slice A n c] 27)).heap.size = w.heap.size + 1 by simp] at hb0
  have HZ0 := Lib.hid hb0
  clear hb0
  generalize (w.alloc (.cells #[.slice A n c] 27)).alloc (.cells #[.int .u8 0, .int .u8 0, .int .u8 0, .int .u8 0, .int .u8 0, .int .u8 0, .int .u8 0, .int .u8 0, .int .u8 0, .int .u8 0, .int .u8 0, .int .u8 0, .int .u8 0, .int .u8 0, .int .u8 0, .int .u8 0] 48) = W0 at *
  obtain ⟨g4, hg4⟩ : ∃ g, w.heap.size + 1 = g := ⟨_, rfl⟩
  have hg4l : w.heap.size < g4 := by omega
  rw [hg4] at HZ0 ⊢
  clear hg4
  obtain ⟨gk, hgk⟩ : ∃ g, w.heap.size = g := ⟨_, rfl⟩
  have HGK := Lib.hid hgk
  rw [hgk] at HG0 hg4l ⊢
  clear hgk
  obtain ⟨z, hz⟩ : ∃ z, (#[.int .u8 0, .int .u8 0, .int .u8 0, .int .u8 0, .int .u8 0, .int .u8 0, .int .u8 0, .int .u8 0, .int .u8 0, .int .u8 0, .int .u8 0, .int .u8 0, .int .u8 0, .int .u8 0, .int .u8 0, .int .u8 0] : Array Value) = z := ⟨_, rfl⟩
  rw [hz] at HZ0
  have HZ := Lib.hid hz
  clear hz
  have cg : W0.cell? ⟨gk, 0, none⟩ = some (.slice A n c) := HG0.out.cell 0
  have HA0 := Lib.hid (HA.out.kept0 HK0.out)
  by_cases hbig : 64 < n
  · have t0 : (64 : Int) < (n : Int) := by omega
    have hs := sum_any W0 S A n c key HA0.out hnc (by omega) hcb (HC.out.kept0 HK0.out)
    have hlM := hm_len16 key
    obtain ⟨K, hK⟩ : ∃ M, md5P key = M := ⟨_, rfl⟩
    rw [hK] at hs hlM
    obtain ⟨k0, k1, k2, k3, k4, k5, k6, k7, k8, k9, k10, k11, k12, k13, k14, k15, hd, hv⟩ := hm_v16 K hlM
    rw [hv] at hs
    have HDK := Lib.hid hd
    have HKK : Hid (keyP key = K) := Lib.hid (by rw [HKP.out, if_pos hbig, hK])
    have HLK : Hid (K.length = 16) := Lib.hid hlM
    have HS := Lib.hid hs
    clear hs hd hv hK hlM
    go_wp2_with fail
    (with_reducible refine HS.out.mono ?_)
    rintro en w2 ⟨rfl, hk⟩
    have HK2 := Lib.hid (HK0.out.trans' hk)
    have HG2 := Lib.hid (HG0.out.kept0 hk)
    have HZ2 := Lib.hid (HZ0.out.kept0 hk)
    clear hk cg HS
    go_upto_region 3 with (fail)
    have HK3 := Lib.hid (HK2.out.alloc (.cells #[.int .u8 (k0.toNat : Int), .int .u8 (k1.toNat : Int), .int .u8 (k2.toNat : Int), .int .u8 (k3.toNat : Int), .int .u8 (k4.toNat : Int), .int .u8 (k5.toNat : Int), .int .u8 (k6.toNat : Int), .int .u8 (k7.toNat : Int), .int .u8 (k8.toNat : Int), .int .u8 (k9.toNat : Int), .int .u8 (k10.toNat : Int), .int .u8 (k11.toNat : Int), .int .u8 (k12.toNat : Int), .int .u8 (k13.toNat : Int), .int .u8 (k14.toNat : Int), .int .u8 (k15.toNat : Int)] 48))
    have HG3 := Lib.hid (HG2.out.alloc (.cells #[.int .u8 (k0.toNat : Int), .int .u8 (k1.toNat : Int), .int .u8 (k2.toNat : Int), .int .u8 (k3.toNat : Int), .int .u8 (k4.toNat : Int), .int .u8 (k5.toNat : Int), .int .u8 (k6.toNat : Int), .int .u8 (k7.toNat : Int), .int .u8 (k8.toNat : Int), .int .u8 (k9.toNat : Int), .int .u8 (k10.toNat : Int), .int .u8 (k11.toNat : Int), .int .u8 (k12.toNat : Int), .int .u8 (k13.toNat : Int), .int .u8 (k14.toNat : Int), .int .u8 (k15.toNat : Int)] 48))
    have HZ3 := Lib.hid (HZ2.out.alloc (.cells #[.int .u8 (k0.toNat : Int), .int .u8 (k1.toNat : Int), .int .u8 (k2.toNat : Int), .int .u8 (k3.toNat : Int), .int .u8 (k4.toNat : Int), .int .u8 (k5.toNat : Int), .int .u8 (k6.toNat : Int), .int .u8 (k7.toNat : Int), .int .u8 (k8.toNat : Int), .int .u8 (k9.toNat : Int), .int .u8 (k10.toNat : Int), .int .u8 (k11.toNat : Int), .int .u8 (k12.toNat : Int), .int .u8 (k13.toNat : Int), .int .u8 (k14.toNat : Int), .int .u8 (k15.toNat : Int)] 48))
    have hb3 := Blk.new w2 48 #[.int .u8 (k0.toNat : Int), .int .u8 (k1.toNat : Int), .int .u8 (k2.toNat : Int), .int .u8 (k3.toNat : Int), .int .u8 (k4.toNat : Int), .int .u8 (k5.toNat : Int), .int .u8 (k6.toNat : Int), .int .u8 (k7.toNat : Int), .int .u8 (k8.toNat : Int), .int .u8 (k9.toNat : Int), .int .u8 (k10.toNat : Int), .int .u8 (k11.toNat : Int), .int .u8 (k12.toNat : Int), .int .u8 (k13.toNat : Int), .int .u8 (k14.toNat : Int), .int .u8 (k15.toNat : Int)]
    have e3 : (#[.int .u8 (k0.toNat : Int), .int .u8 (k1.toNat : Int), .int .u8 (k2.toNat : Int), .int .u8 (k3.toNat : Int), .int .u8 (k4.toNat : Int), .int .u8 (k5.toNat : Int), .int .u8 (k6.toNat : Int), .int .u8 (k7.toNat : Int), .int .u8 (k8.toNat : Int), .int .u8 (k9.toNat : Int), .int .u8 (k10.toNat : Int), .int .u8 (k11.toNat : Int), .int .u8 (k12.toNat : Int), .int .u8 (k13.toNat : Int), .int .u8 (k14.toNat : Int), .int .u8 (k15.toNat : Int)] : Array Value) = (b8s K).toArray := by rw [HDK.out]; rfl
    generalize w2.alloc (.cells #[.int .u8 (k0.toNat : Int), .int .u8 (k1.toNat : Int), .int .u8 (k2.toNat : Int), .int .u8 (k3.toNat : Int), .int .u8 (k4.toNat : Int), .int .u8 (k5.toNat : Int), .int .u8 (k6.toNat : Int), .int .u8 (k7.toNat : Int), .int .u8 (k8.toNat : Int), .int .u8 (k9.toNat : Int), .int .u8 (k10.toNat : Int), .int .u8 (k11.toNat : Int), .int .u8 (k12.toNat : Int), .int .u8 (k13.toNat : Int), .int .u8 (k14.toNat : Int), .int .u8 (k15.toNat : Int)] 48) = W3 at *
    rw [e3] at hb3
    have HB3 := Lib.hid hb3
    clear hb3 e3
    obtain ⟨g5, hg5⟩ : ∃ g, w2.heap.size = g := ⟨_, rfl⟩
    have hk25 : gk < g5 := by rw [← hg5]; exact HG2.out.lt
    rw [hg5] at HB3 ⊢
    clear hg5 HK2 HG2 HZ2
    have cg3 := HG3.out.cell 0
    have fg3 := HG3.out.frozen 0
    have lg3 := HG3.out.lt
    go_upto_region 4 with (fail)
    have egk : w.heap.size ≤ gk := by rw [HGK.out]; exact Nat.le_refl _
    have hgs := HG3.out.set_ 0 (.slice (some ⟨g5, 0, none⟩) 16 16)
    have HG4 : Hid (Blk (W3.setCell ⟨gk, 0, none⟩ (.slice (some ⟨g5, 0, none⟩) 16 16)) gk 27 #[.slice (some ⟨g5, 0, none⟩) 16 16]) := Lib.hid hgs
    have HK4 := Lib.hid (HK3.out.setCell (p := ⟨gk, 0, none⟩) (.inr egk) (.slice (some ⟨g5, 0, none⟩) 16 16))
    have HZ4 := Lib.hid (HZ3.out.far (p := ⟨gk, 0, none⟩) (by show g4 ≠ gk; omega) (.slice (some ⟨g5, 0, none⟩) 16 16))
    have HB4 := Lib.hid (HB3.out.far (p := ⟨gk, 0, none⟩) (by show g5 ≠ gk; omega) (.slice (some ⟨g5, 0, none⟩) 16 16))
    clear hgs egk cg3 fg3 lg3
    generalize W3.setCell ⟨gk, 0, none⟩ (.slice (some ⟨g5, 0, none⟩) 16 16) = W4 at *
    have HKEY := Lib.hid (hm_reads HB4.out 16 HLK.out)
    have ck : W4.cell? ⟨gk, 0, none⟩ = some (.slice (some ⟨g5, 0, none⟩) 16 16) := HG4.out.cell 0
    have hu := under_calls W4 54 gk _ T (some ⟨g5, 0, none⟩) 16 16 K B m d b ck HKEY.out (by omega) (by omega) (HB.out.kept0 HK4.out) hm (HC.out.kept0 HK4.out)
    rw [show (((54 : UInt8).toNat : Nat) : Int) = 54 from rfl] at hu
    have hl1 := hm_len16 (xorK K 54 ++ b)
    obtain ⟨M, hM⟩ : ∃ M, md5P (xorK K 54 ++ b) = M := ⟨_, rfl⟩
    rw [hM] at hu hl1
    obtain ⟨r0, r1, r2, r3, r4, r5, r6, r7, r8, r9, r10, r11, r12, r13, r14, r15, hd, hv⟩ := hm_v16 M hl1
    rw [hv] at hu
    have HU := Lib.hid hu
    have HM := Lib.hid hM
    have HD := Lib.hid hd
    have HL1 := Lib.hid hl1
    clear hu hM hd hv hl1 ck
    go_wp2_with fail
    (with_reducible refine HU.out.mono ?_)
    rintro en w5 ⟨rfl, hk⟩
    have HK5 := Lib.hid (HK4.out.trans' hk)
    have HG5 := Lib.hid (HG4.out.kept0 hk)
    have HZ5 := Lib.hid (HZ4.out.kept0 hk)
    have HKEY5 := Lib.hid (HKEY.out.kept0 hk)
    clear hk HU
    go_upto_region 6 with (fail)
    have HK6 := Lib.hid (HK5.out.alloc (.cells #[.int .u8 (r0.toNat : Int), .int .u8 (r1.toNat : Int), .int .u8 (r2.toNat : Int), .int .u8 (r3.toNat : Int), .int .u8 (r4.toNat : Int), .int .u8 (r5.toNat : Int), .int .u8 (r6.toNat : Int), .int .u8 (r7.toNat : Int), .int .u8 (r8.toNat : Int), .int .u8 (r9.toNat : Int), .int .u8 (r10.toNat : Int), .int .u8 (r11.toNat : Int), .int .u8 (r12.toNat : Int), .int .u8 (r13.toNat : Int), .int .u8 (r14.toNat : Int), .int .u8 (r15.toNat : Int)] 48))
    have HG6 := Lib.hid (HG5.out.alloc (.cells #[.int .u8 (r0.toNat : Int), .int .u8 (r1.toNat : Int), .int .u8 (r2.toNat : Int), .int .u8 (r3.toNat : Int), .int .u8 (r4.toNat : Int), .int .u8 (r5.toNat : Int), .int .u8 (r6.toNat : Int), .int .u8 (r7.toNat : Int), .int .u8 (r8.toNat : Int), .int .u8 (r9.toNat : Int), .int .u8 (r10.toNat : Int), .int .u8 (r11.toNat : Int), .int .u8 (r12.toNat : Int), .int .u8 (r13.toNat : Int), .int .u8 (r14.toNat : Int), .int .u8 (r15.toNat : Int)] 48))
    have HZ6 := Lib.hid (HZ5.out.alloc (.cells #[.int .u8 (r0.toNat : Int), .int .u8 (r1.toNat : Int), .int .u8 (r2.toNat : Int), .int .u8 (r3.toNat : Int), .int .u8 (r4.toNat : Int), .int .u8 (r5.toNat : Int), .int .u8 (r6.toNat : Int), .int .u8 (r7.toNat : Int), .int .u8 (r8.toNat : Int), .int .u8 (r9.toNat : Int), .int .u8 (r10.toNat : Int), .int .u8 (r11.toNat : Int), .int .u8 (r12.toNat : Int), .int .u8 (r13.toNat : Int), .int .u8 (r14.toNat : Int), .int .u8 (r15.toNat : Int)] 48))
    have HKEY6 := Lib.hid (HKEY5.out.alloc (.cells #[.int .u8 (r0.toNat : Int), .int .u8 (r1.toNat : Int), .int .u8 (r2.toNat : Int), .int .u8 (r3.toNat : Int), .int .u8 (r4.toNat : Int), .int .u8 (r5.toNat : Int), .int .u8 (r6.toNat : Int), .int .u8 (r7.toNat : Int), .int .u8 (r8.toNat : Int), .int .u8 (r9.toNat : Int), .int .u8 (r10.toNat : Int), .int .u8 (r11.toNat : Int), .int .u8 (r12.toNat : Int), .int .u8 (r13.toNat : Int), .int .u8 (r14.toNat : Int), .int .u8 (r15.toNat : Int)] 48))
    have hb6 := Blk.new w5 48 #[.int .u8 (r0.toNat : Int), .int .u8 (r1.toNat : Int), .int .u8 (r2.toNat : Int), .int .u8 (r3.toNat : Int), .int .u8 (r4.toNat : Int), .int .u8 (r5.toNat : Int), .int .u8 (r6.toNat : Int), .int .u8 (r7.toNat : Int), .int .u8 (r8.toNat : Int), .int .u8 (r9.toNat : Int), .int .u8 (r10.toNat : Int), .int .u8 (r11.toNat : Int), .int .u8 (r12.toNat : Int), .int .u8 (r13.toNat : Int), .int .u8 (r14.toNat : Int), .int .u8 (r15.toNat : Int)]
    have e6 : (#[.int .u8 (r0.toNat : Int), .int .u8 (r1.toNat : Int), .int .u8 (r2.toNat : Int), .int .u8 (r3.toNat : Int), .int .u8 (r4.toNat : Int), .int .u8 (r5.toNat : Int), .int .u8 (r6.toNat : Int), .int .u8 (r7.toNat : Int), .int .u8 (r8.toNat : Int), .int .u8 (r9.toNat : Int), .int .u8 (r10.toNat : Int), .int .u8 (r11.toNat : Int), .int .u8 (r12.toNat : Int), .int .u8 (r13.toNat : Int), .int .u8 (r14.toNat : Int), .int .u8 (r15.toNat : Int)] : Array Value) = (b8s M).toArray := by rw [HD.out]; rfl
    generalize w5.alloc (.cells #[.int .u8 (r0.toNat : Int), .int .u8 (r1.toNat : Int), .int .u8 (r2.toNat : Int), .int .u8 (r3.toNat : Int), .int .u8 (r4.toNat : Int), .int .u8 (r5.toNat : Int), .int .u8 (r6.toNat : Int), .int .u8 (r7.toNat : Int), .int .u8 (r8.toNat : Int), .int .u8 (r9.toNat : Int), .int .u8 (r10.toNat : Int), .int .u8 (r11.toNat : Int), .int .u8 (r12.toNat : Int), .int .u8 (r13.toNat : Int), .int .u8 (r14.toNat : Int), .int .u8 (r15.toNat : Int)] 48) = W6 at *
    rw [e6] at hb6
    have hrd6 := hm_reads hb6 16 HL1.out
    have HRD6 := Lib.hid hrd6
    clear hb6 hrd6 e6
    obtain ⟨g7, hg7⟩ : ∃ g, w5.heap.size = g := ⟨_, rfl⟩
    rw [hg7] at HRD6 ⊢
    clear hg7 HK5 HG5 HZ5 HKEY5
    have ck : W6.cell? ⟨gk, 0, none⟩ = some (.slice (some ⟨g5, 0, none⟩) 16 16) := HG6.out.cell 0
    have hu := under_calls W6 92 gk _ _ (some ⟨g5, 0, none⟩) 16 16 K (some ⟨g7, 0, none⟩) 16 16 M ck HKEY6.out (by omega) (by omega) HRD6.out (by omega) (HC.out.kept0 HK6.out)
    rw [show (((92 : UInt8).toNat : Nat) : Int) = 92 from rfl] at hu
    have hl2 := hm_len16 (xorK K 92 ++ M)
    obtain ⟨N, hN⟩ : ∃ N, md5P (xorK K 92 ++ M) = N := ⟨_, rfl⟩
    rw [hN] at hu hl2
    obtain ⟨q0, q1, q2, q3, q4, q5, q6, q7, q8, q9, q10, q11, q12, q13, q14, q15, hre⟩ := list16 N hl2
    have hv : v16 N = .agg #[.int .u8 (q0.toNat : Int), .int .u8 (q1.toNat : Int), .int .u8 (q2.toNat : Int), .int .u8 (q3.toNat : Int), .int .u8 (q4.toNat : Int), .int .u8 (q5.toNat : Int), .int .u8 (q6.toNat : Int), .int .u8 (q7.toNat : Int), .int .u8 (q8.toNat : Int), .int .u8 (q9.toNat : Int), .int .u8 (q10.toNat : Int), .int .u8 (q11.toNat : Int), .int .u8 (q12.toNat : Int), .int .u8 (q13.toNat : Int), .int .u8 (q14.toNat : Int), .int .u8 (q15.toNat : Int)] := by rw [hre]; rfl
    rw [hv] at hu
    have HU := Lib.hid hu
    have HN := Lib.hid hN
    have HRE := Lib.hid hre
    clear hu hN hre hv hl2 ck
    go_wp2_with fail
    (with_reducible refine HU.out.mono ?_)
    rintro en w9 ⟨rfl, hk⟩
    have HK9 := Lib.hid (HK6.out.trans' hk)
    have H29 := Lib.hid (HZ6.out.kept0 hk)
    rw [← HZ.out] at H29
    clear hk HU
    have d0 : w9.cell? ⟨g4, 0, none⟩ = some (.int .u8 0) := H29.out.cell 0
    have f0 := H29.out.frozen 0
    have d1 : w9.cell? ⟨g4, 1, none⟩ = some (.int .u8 0) := H29.out.cell 1
    have f1 := H29.out.frozen 1
    have d2 : w9.cell? ⟨g4, 2, none⟩ = some (.int .u8 0) := H29.out.cell 2
    have f2 := H29.out.frozen 2
    have d3 : w9.cell? ⟨g4, 3, none⟩ = some (.int .u8 0) := H29.out.cell 3
    have f3 := H29.out.frozen 3
    have d4 : w9.cell? ⟨g4, 4, none⟩ = some (.int .u8 0) := H29.out.cell 4
    have f4 := H29.out.frozen 4
    have d5 : w9.cell? ⟨g4, 5, none⟩ = some (.int .u8 0) := H29.out.cell 5
    have f5 := H29.out.frozen 5
    have d6 : w9.cell? ⟨g4, 6, none⟩ = some (.int .u8 0) := H29.out.cell 6
    have f6 := H29.out.frozen 6
    have d7 : w9.cell? ⟨g4, 7, none⟩ = some (.int .u8 0) := H29.out.cell 7
    have f7 := H29.out.frozen 7
    have d8 : w9.cell? ⟨g4, 8, none⟩ = some (.int .u8 0) := H29.out.cell 8
    have f8 := H29.out.frozen 8
    have d9 : w9.cell? ⟨g4, 9, none⟩ = some (.int .u8 0) := H29.out.cell 9
    have f9 := H29.out.frozen 9
    have d10 : w9.cell? ⟨g4, 10, none⟩ = some (.int .u8 0) := H29.out.cell 10
    have f10 := H29.out.frozen 10
    have d11 : w9.cell? ⟨g4, 11, none⟩ = some (.int .u8 0) := H29.out.cell 11
    have f11 := H29.out.frozen 11
    have d12 : w9.cell? ⟨g4, 12, none⟩ = some (.int .u8 0) := H29.out.cell 12
    have f12 := H29.out.frozen 12
    have d13 : w9.cell? ⟨g4, 13, none⟩ = some (.int .u8 0) := H29.out.cell 13
    have f13 := H29.out.frozen 13
    have d14 : w9.cell? ⟨g4, 14, none⟩ = some (.int .u8 0) := H29.out.cell 14
    have f14 := H29.out.frozen 14
    have d15 : w9.cell? ⟨g4, 15, none⟩ = some (.int .u8 0) := H29.out.cell 15
    have f15 := H29.out.frozen 15
    have hgl := H29.out.lt
    go_wp2_with fail
    refine bodyPost_ret (results_cell_row rfl _ _ g4 48 _ (0, 0) _ rfl (blk16 H29.out q0 q1 q2 q3 q4 q5 q6 q7 q8 q9 q10 q11 q12 q13 q14 q15) Tryd.underlying48 rfl (by kernel_rfl)) rfl ?_
    have e2 : w.heap.size ≤ g4 := by rw [HGK.out]; omega
    exact ⟨by rw [hmacP, HKK.out, HM.out, HN.out, HRE.out]; rfl, kept16 HK9.out e2 _ _ _ _ _ _ _ _ _ _ _ _ _ _ _ _⟩
  · have t0 : ¬ (64 : Int) < (n : Int) := by omega
    have t0' := decide_eq_false t0
    have HKK : Hid (keyP key = key) := Lib.hid (by rw [HKP.out, if_neg hbig])
    go_upto_region 4 with (fail)
    clear cg
    have ck : W0.cell? ⟨gk, 0, none⟩ = some (.slice A n c) := HG0.out.cell 0
    have hu := under_calls W0 54 gk S T A n c key B m d b ck HA0.out (by omega) (hnc) (HB.out.kept0 HK0.out) hm (HC.out.kept0 HK0.out)
    rw [show (((54 : UInt8).toNat : Nat) : Int) = 54 from rfl] at hu
    have hl1 := hm_len16 (xorK key 54 ++ b)
    obtain ⟨M, hM⟩ : ∃ M, md5P (xorK key 54 ++ b) = M := ⟨_, rfl⟩
    rw [hM] at hu hl1
    obtain ⟨r0, r1, r2, r3, r4, r5, r6, r7, r8, r9, r10, r11, r12, r13, r14, r15, hd, hv⟩ := hm_v16 M hl1
    rw [hv] at hu
    have HU := Lib.hid hu
    have HM := Lib.hid hM
    have HD := Lib.hid hd
    have HL1 := Lib.hid hl1
    clear hu hM hd hv hl1 ck
    go_wp2_with fail
    (with_reducible refine HU.out.mono ?_)
    rintro en w5 ⟨rfl, hk⟩
    have HK5 := Lib.hid (HK0.out.trans' hk)
    have HG5 := Lib.hid (HG0.out.kept0 hk)
    have HZ5 := Lib.hid (HZ0.out.kept0 hk)
    have HKEY5 := Lib.hid (HA0.out.kept0 hk)
    clear hk HU
    go_upto_region 6 with (fail)
    have HK6 := Lib.hid (HK5.out.alloc (.cells #[.int .u8 (r0.toNat : Int), .int .u8 (r1.toNat : Int), .int .u8 (r2.toNat : Int), .int .u8 (r3.toNat : Int), .int .u8 (r4.toNat : Int), .int .u8 (r5.toNat : Int), .int .u8 (r6.toNat : Int), .int .u8 (r7.toNat : Int), .int .u8 (r8.toNat : Int), .int .u8 (r9.toNat : Int), .int .u8 (r10.toNat : Int), .int .u8 (r11.toNat : Int), .int .u8 (r12.toNat : Int), .int .u8 (r13.toNat : Int), .int .u8 (r14.toNat : Int), .int .u8 (r15.toNat : Int)] 48))
    have HG6 := Lib.hid (HG5.out.alloc (.cells #[.int .u8 (r0.toNat : Int), .int .u8 (r1.toNat : Int), .int .u8 (r2.toNat : Int), .int .u8 (r3.toNat : Int), .int .u8 (r4.toNat : Int), .int .u8 (r5.toNat : Int), .int .u8 (r6.toNat : Int), .int .u8 (r7.toNat : Int), .int .u8 (r8.toNat : Int), .int .u8 (r9.toNat : Int), .int .u8 (r10.toNat : Int), .int .u8 (r11.toNat : Int), .int .u8 (r12.toNat : Int), .int .u8 (r13.toNat : Int), .int .u8 (r14.toNat : Int), .int .u8 (r15.toNat : Int)] 48))
    have HZ6 := Lib.hid (HZ5.out.alloc (.cells #[.int .u8 (r0.toNat : Int), .int .u8 (r1.toNat : Int), .int .u8 (r2.toNat : Int), .int .u8 (r3.toNat : Int), .int .u8 (r4.toNat : Int), .int .u8 (r5.toNat : Int), .int .u8 (r6.toNat : Int), .int .u8 (r7.toNat : Int), .int .u8 (r8.toNat : Int), .int .u8 (r9.toNat : Int), .int .u8 (r10.toNat : Int), .int .u8 (r11.toNat : Int), .int .u8 (r12.toNat : Int), .int .u8 (r13.toNat : Int), .int .u8 (r14.toNat : Int), .int .u8 (r15.toNat : Int)] 48))
    have HKEY6 := Lib.hid (HKEY5.out.alloc (.cells #[.int .u8 (r0.toNat : Int), .int .u8 (r1.toNat : Int), .int .u8 (r2.toNat : Int), .int .u8 (r3.toNat : Int), .int .u8 (r4.toNat : Int), .int .u8 (r5.toNat : Int), .int .u8 (r6.toNat : Int), .int .u8 (r7.toNat : Int), .int .u8 (r8.toNat : Int), .int .u8 (r9.toNat : Int), .int .u8 (r10.toNat : Int), .int .u8 (r11.toNat : Int), .int .u8 (r12.toNat : Int), .int .u8 (r13.toNat : Int), .int .u8 (r14.toNat : Int), .int .u8 (r15.toNat : Int)] 48))
    have hb6 := Blk.new w5 48 #[.int .u8 (r0.toNat : Int), .int .u8 (r1.toNat : Int), .int .u8 (r2.toNat : Int), .int .u8 (r3.toNat : Int), .int .u8 (r4.toNat : Int), .int .u8 (r5.toNat : Int), .int .u8 (r6.toNat : Int), .int .u8 (r7.toNat : Int), .int .u8 (r8.toNat : Int), .int .u8 (r9.toNat : Int), .int .u8 (r10.toNat : Int), .int .u8 (r11.toNat : Int), .int .u8 (r12.toNat : Int), .int .u8 (r13.toNat : Int), .int .u8 (r14.toNat : Int), .int .u8 (r15.toNat : Int)]
    have e6 : (#[.int .u8 (r0.toNat : Int), .int .u8 (r1.toNat : Int), .int .u8 (r2.toNat : Int), .int .u8 (r3.toNat : Int), .int .u8 (r4.toNat : Int), .int .u8 (r5.toNat : Int), .int .u8 (r6.toNat : Int), .int .u8 (r7.toNat : Int), .int .u8 (r8.toNat : Int), .int .u8 (r9.toNat : Int), .int .u8 (r10.toNat : Int), .int .u8 (r11.toNat : Int), .int .u8 (r12.toNat : Int), .int .u8 (r13.toNat : Int), .int .u8 (r14.toNat : Int), .int .u8 (r15.toNat : Int)] : Array Value) = (b8s M).toArray := by rw [HD.out]; rfl
    generalize w5.alloc (.cells #[.int .u8 (r0.toNat : Int), .int .u8 (r1.toNat : Int), .int .u8 (r2.toNat : Int), .int .u8 (r3.toNat : Int), .int .u8 (r4.toNat : Int), .int .u8 (r5.toNat : Int), .int .u8 (r6.toNat : Int), .int .u8 (r7.toNat : Int), .int .u8 (r8.toNat : Int), .int .u8 (r9.toNat : Int), .int .u8 (r10.toNat : Int), .int .u8 (r11.toNat : Int), .int .u8 (r12.toNat : Int), .int .u8 (r13.toNat : Int), .int .u8 (r14.toNat : Int), .int .u8 (r15.toNat : Int)] 48) = W6 at *
    rw [e6] at hb6
    have hrd6 := hm_reads hb6 16 HL1.out
    have HRD6 := Lib.hid hrd6
    clear hb6 hrd6 e6
    obtain ⟨g7, hg7⟩ : ∃ g, w5.heap.size = g := ⟨_, rfl⟩
    rw [hg7] at HRD6 ⊢
    clear hg7 HK5 HG5 HZ5 HKEY5
    have ck : W6.cell? ⟨gk, 0, none⟩ = some (.slice A n c) := HG6.out.cell 0
    have hu := under_calls W6 92 gk S _ A n c key (some ⟨g7, 0, none⟩) 16 16 M ck HKEY6.out (by omega) (hnc) HRD6.out (by omega) (HC.out.kept0 HK6.out)
    rw [show (((92 : UInt8).toNat : Nat) : Int) = 92 from rfl] at hu
    have hl2 := hm_len16 (xorK key 92 ++ M)
    obtain ⟨N, hN⟩ : ∃ N, md5P (xorK key 92 ++ M) = N := ⟨_, rfl⟩
    rw [hN] at hu hl2
    obtain ⟨q0, q1, q2, q3, q4, q5, q6, q7, q8, q9, q10, q11, q12, q13, q14, q15, hre⟩ := list16 N hl2
    have hv : v16 N = .agg #[.int .u8 (q0.toNat : Int), .int .u8 (q1.toNat : Int), .int .u8 (q2.toNat : Int), .int .u8 (q3.toNat : Int), .int .u8 (q4.toNat : Int), .int .u8 (q5.toNat : Int), .int .u8 (q6.toNat : Int), .int .u8 (q7.toNat : Int), .int .u8 (q8.toNat : Int), .int .u8 (q9.toNat : Int), .int .u8 (q10.toNat : Int), .int .u8 (q11.toNat : Int), .int .u8 (q12.toNat : Int), .int .u8 (q13.toNat : Int), .int .u8 (q14.toNat : Int), .int .u8 (q15.toNat : Int)] := by rw [hre]; rfl
    rw [hv] at hu
    have HU := Lib.hid hu
    have HN := Lib.hid hN
    have HRE := Lib.hid hre
    clear hu hN hre hv hl2 ck
    go_wp2_with fail
    (with_reducible refine HU.out.mono ?_)
    rintro en w9 ⟨rfl, hk⟩
    have HK9 := Lib.hid (HK6.out.trans' hk)
    have H29 := Lib.hid (HZ6.out.kept0 hk)
    rw [← HZ.out] at H29
    clear hk HU
    have d0 : w9.cell? ⟨g4, 0, none⟩ = some (.int .u8 0) := H29.out.cell 0
    have f0 := H29.out.frozen 0
    have d1 : w9.cell? ⟨g4, 1, none⟩ = some (.int .u8 0) := H29.out.cell 1
    have f1 := H29.out.frozen 1
    have d2 : w9.cell? ⟨g4, 2, none⟩ = some (.int .u8 0) := H29.out.cell 2
    have f2 := H29.out.frozen 2
    have d3 : w9.cell? ⟨g4, 3, none⟩ = some (.int .u8 0) := H29.out.cell 3
    have f3 := H29.out.frozen 3
    have d4 : w9.cell? ⟨g4, 4, none⟩ = some (.int .u8 0) := H29.out.cell 4
    have f4 := H29.out.frozen 4
    have d5 : w9.cell? ⟨g4, 5, none⟩ = some (.int .u8 0) := H29.out.cell 5
    have f5 := H29.out.frozen 5
    have d6 : w9.cell? ⟨g4, 6, none⟩ = some (.int .u8 0) := H29.out.cell 6
    have f6 := H29.out.frozen 6
    have d7 : w9.cell? ⟨g4, 7, none⟩ = some (.int .u8 0) := H29.out.cell 7
    have f7 := H29.out.frozen 7
    have d8 : w9.cell? ⟨g4, 8, none⟩ = some (.int .u8 0) := H29.out.cell 8
    have f8 := H29.out.frozen 8
    have d9 : w9.cell? ⟨g4, 9, none⟩ = some (.int .u8 0) := H29.out.cell 9
    have f9 := H29.out.frozen 9
    have d10 : w9.cell? ⟨g4, 10, none⟩ = some (.int .u8 0) := H29.out.cell 10
    have f10 := H29.out.frozen 10
    have d11 : w9.cell? ⟨g4, 11, none⟩ = some (.int .u8 0) := H29.out.cell 11
    have f11 := H29.out.frozen 11
    have d12 : w9.cell? ⟨g4, 12, none⟩ = some (.int .u8 0) := H29.out.cell 12
    have f12 := H29.out.frozen 12
    have d13 : w9.cell? ⟨g4, 13, none⟩ = some (.int .u8 0) := H29.out.cell 13
    have f13 := H29.out.frozen 13
    have d14 : w9.cell? ⟨g4, 14, none⟩ = some (.int .u8 0) := H29.out.cell 14
    have f14 := H29.out.frozen 14
    have d15 : w9.cell? ⟨g4, 15, none⟩ = some (.int .u8 0) := H29.out.cell 15
    have f15 := H29.out.frozen 15
    have hgl := H29.out.lt
    go_wp2_with fail
    refine bodyPost_ret (results_cell_row rfl _ _ g4 48 _ (0, 0) _ rfl (blk16 H29.out q0 q1 q2 q3 q4 q5 q6 q7 q8 q9 q10 q11 q12 q13 q14 q15) Tryd.underlying48 rfl (by kernel_rfl)) rfl ?_
    have e2 : w.heap.size ≤ g4 := by rw [HGK.out]; omega
    exact ⟨by rw [hmacP, HKK.out, HM.out, HN.out, HRE.out]; rfl, kept16 HK9.out e2 _ _ _ _ _ _ _ _ _ _ _ _ _ _ _ _⟩
set_option maxHeartbeats 4000000 in
set_option maxRecDepth 100000 in
theorem hhex_calls (w : World) (S T : Nat → Prop) (A : Option Addr) (n c : Nat) (key : List UInt8) (B : Option Addr) (m d : Nat) (b : List UInt8)
    (hA : Reads w S A n (b8s key)) (hn : n ≤ 1099511627) (hnc : n ≤ c) (hcb : c ≤ 9223372036854775807) (hB : Reads w T B m (b8s b)) (hm : m ≤ 1099511627) (hC : SinC w) :
    Calls Tryd.prog 25 #[.slice A n c, .slice B m d] w fun en w' => en = .returned (.string (strB (hexL (hmacP key b)))) ∧ Kept w w' NoB := by
  have hs := hsum_calls w S T A n c key B m d b hA hn hnc hcb hB hm hC
  have hl := hmac_len key b
  obtain ⟨M, hM⟩ : ∃ M, hmacP key b = M := ⟨_, rfl⟩
  rw [hM] at hs hl
  obtain ⟨r0, r1, r2, r3, r4, r5, r6, r7, r8, r9, r10, r11, r12, r13, r14, r15, hd, hv⟩ := hm_v16 M hl
  rw [hv] at hs
  have HS := Lib.hid hs
  have HM := Lib.hid hM
  have HD := Lib.hid hd
  have HL := Lib.hid hl
  clear hs hl hM hd hv hA hB hC
  go_enter Tryd.func25, Tryd.ntmps25
  go_wp2_with fail
  (with_reducible refine HS.out.mono ?_)
  rintro en w1 ⟨rfl, hk⟩
  have HK1 := Lib.hid hk
  clear hk
  go_upto_region 2 with (fail)
  have HK2 := Lib.hid (HK1.out.alloc (.cells #[.int .u8 (r0.toNat : Int), .int .u8 (r1.toNat : Int), .int .u8 (r2.toNat : Int), .int .u8 (r3.toNat : Int), .int .u8 (r4.toNat : Int), .int .u8 (r5.toNat : Int), .int .u8 (r6.toNat : Int), .int .u8 (r7.toNat : Int), .int .u8 (r8.toNat : Int), .int .u8 (r9.toNat : Int), .int .u8 (r10.toNat : Int), .int .u8 (r11.toNat : Int), .int .u8 (r12.toNat : Int), .int .u8 (r13.toNat : Int), .int .u8 (r14.toNat : Int), .int .u8 (r15.toNat : Int)] 48))
  have hb2 := Blk.new w1 48 #[.int .u8 (r0.toNat : Int), .int .u8 (r1.toNat : Int), .int .u8 (r2.toNat : Int), .int .u8 (r3.toNat : Int), .int .u8 (r4.toNat : Int), .int .u8 (r5.toNat : Int), .int .u8 (r6.toNat : Int), .int .u8 (r7.toNat : Int), .int .u8 (r8.toNat : Int), .int .u8 (r9.toNat : Int), .int .u8 (r10.toNat : Int), .int .u8 (r11.toNat : Int), .int .u8 (r12.toNat : Int), .int .u8 (r13.toNat : Int), .int .u8 (r14.toNat : Int), .int .u8 (r15.toNat : Int)]
  have e2 : (#[.int .u8 (r0.toNat : Int), .int .u8 (r1.toNat : Int), .int .u8 (r2.toNat : Int), .int .u8 (r3.toNat : Int), .int .u8 (r4.toNat : Int), .int .u8 (r5.toNat : Int), .int .u8 (r6.toNat : Int), .int .u8 (r7.toNat : Int), .int .u8 (r8.toNat : Int), .int .u8 (r9.toNat : Int), .int .u8 (r10.toNat : Int), .int .u8 (r11.toNat : Int), .int .u8 (r12.toNat : Int), .int .u8 (r13.toNat : Int), .int .u8 (r14.toNat : Int), .int .u8 (r15.toNat : Int)] : Array Value) = (b8s M).toArray := by rw [HD.out]; rfl
  generalize w1.alloc (.cells #[.int .u8 (r0.toNat : Int), .int .u8 (r1.toNat : Int), .int .u8 (r2.toNat : Int), .int .u8 (r3.toNat : Int), .int .u8 (r4.toNat : Int), .int .u8 (r5.toNat : Int), .int .u8 (r6.toNat : Int), .int .u8 (r7.toNat : Int), .int .u8 (r8.toNat : Int), .int .u8 (r9.toNat : Int), .int .u8 (r10.toNat : Int), .int .u8 (r11.toNat : Int), .int .u8 (r12.toNat : Int), .int .u8 (r13.toNat : Int), .int .u8 (r14.toNat : Int), .int .u8 (r15.toNat : Int)] 48) = W2 at *
  rw [e2] at hb2
  have HRD := Lib.hid (hm_reads hb2 16 HL.out)
  clear hb2 e2
  go_wp2_with fail
  refine (hex_calls W2 _ _ 16 16 M HRD.out (by omega)).mono ?_
  rintro en w3 ⟨rfl, hk⟩
  have HK3 := Lib.hid (HK2.out.trans' hk)
  clear hk
  go_wp2_with fail
  go_ret
  exact ⟨by rw [HM.out]; rfl, HK3.out⟩
end Go.Proofs.YthnebhnlkjkcmaaDoor
