/- The reference's Sum and Hex. (Printed by gen_hmt.py.) -/
import Derived.Test.YthnebhnlkjkcmaaDoorHmS5
set_option linter.unusedVariables false
set_option linter.unusedSimpArgs false
namespace Go.Proofs.YthnebhnlkjkcmaaDoor
open Go.RowKit

set_option maxHeartbeats 8000000 in
set_option maxRecDepth 100000 in
theorem refHmac_calls (w : World) (S T : Nat → Prop) (A : Option Addr) (n c : Nat) (key : List UInt8) (B : Option Addr) (m d : Nat) (b : List UInt8)
    (hA : Reads w S A n (b8s key)) (hn : n ≤ 1099511627) (hB : Reads w T B m (b8s b)) (hm : m ≤ 1099511) :
    Calls Tryd.prog 46 #[.slice A n c, .slice B m d] w fun en w' => en = .returned (v16 (hmacP key b)) ∧ Kept w w' NoB := by
  have hbl : b.length = m := by have := hB.1; rwa [b8s_length] at this
  have HBL := Lib.hid hbl
  have HA := Lib.hid hA
  have HB := Lib.hid hB
  obtain ⟨K1, hK1⟩ : ∃ K, xorK (keyP key) 54 = K := ⟨_, rfl⟩
  obtain ⟨K2, hK2⟩ : ∃ K, xorK (keyP key) 92 = K := ⟨_, rfl⟩
  have hl1 : K1.length = 64 := by rw [← hK1, xorK_len]
  have hl2 : K2.length = 64 := by rw [← hK2, xorK_len]
  have hres : hmacP key b = md5P (K2 ++ md5P (K1 ++ b)) := by rw [hmacP, hK1, hK2]
  have HK1E := Lib.hid hK1
  have HK2E := Lib.hid hK2
  have HL1 := Lib.hid hl1
  have HL2 := Lib.hid hl2
  have HRES := Lib.hid hres
  clear hA hB hbl hK1 hK2 hl1 hl2 hres
  go_enter Tryd.func46, Tryd.ntmps46
  go_wp2_with fail
  have HK0 := Lib.hid ((Kept.refl w NoB).alloc (.cells #[.int .u8 0, .int .u8 0, .int .u8 0, .int .u8 0, .int .u8 0, .int .u8 0, .int .u8 0, .int .u8 0, .int .u8 0, .int .u8 0, .int .u8 0, .int .u8 0, .int .u8 0, .int .u8 0, .int .u8 0, .int .u8 0] 48))
  have HZ0 := Lib.hid (Blk.new w 48 #[.int .u8 0, .int .u8 0, .int .u8 0, .int .u8 0, .int .u8 0, .int .u8 0, .int .u8 0, .int .u8 0, .int .u8 0, .int .u8 0, .int .u8 0, .int .u8 0, .int .u8 0, .int .u8 0, .int .u8 0, .int .u8 0])
  generalize w.alloc (.cells #[.int .u8 0, .int .u8 0, .int .u8 0, .int .u8 0, .int .u8 0, .int .u8 0, .int .u8 0, .int .u8 0, .int .u8 0, .int .u8 0, .int .u8 0, .int .u8 0, .int .u8 0, .int .u8 0, .int .u8 0, .int .u8 0] 48) = W0 at *
  obtain ⟨g4, hg4⟩ : ∃ g, w.heap.size = g := ⟨_, rfl⟩
  have HG4 := Lib.hid hg4
  rw [hg4] at HZ0 ⊢
  clear hg4
  obtain ⟨z, hz⟩ : ∃ z, (#[.int .u8 0, .int .u8 0, .int .u8 0, .int .u8 0, .int .u8 0, .int .u8 0, .int .u8 0, .int .u8 0, .int .u8 0, .int .u8 0, .int .u8 0, .int .u8 0, .int .u8 0, .int .u8 0, .int .u8 0, .int .u8 0] : Array Value) = z := ⟨_, rfl⟩
  rw [hz] at HZ0
  have HZ := Lib.hid hz
  clear hz
  have hp := refPad_calls W0 S A n c key 54 (HA.out.kept0 HK0.out) hn
  rw [show (((54 : UInt8).toNat : Nat) : Int) = 54 from rfl] at hp
  simp only [HK1E.out] at hp
  (with_reducible refine hp.mono ?_)
  clear hp
  rintro en w1 ⟨v1, rfl, hk, hrow⟩
  have HS01 := Lib.hid hk.size
  have HKA := Lib.hid (HK0.out.trans' hk)
  have HZ1 := Lib.hid (HZ0.out.kept0 hk)
  have hsz1 := HK0.out.size
  have HROW := Lib.hid hrow
  have HOLD1 := Lib.hid (fun k hk => hrow.2 k hk)
  have hsa := HKA.out.size
  clear hk hrow HOLD1
  have hsz01 : W0.heap.size ≤ w1.heap.size := HS01.out
  go_wp2_with (at_builtin; refine wpList_appN (W := w1) rfl _ _ 27 5 (.int .u8 0) 1 rfl Tryd.underlying27 cc_info rfl (by decide) (fun b => W0.heap.size ≤ b) T v1 (b8s K1) (b8s b) B m d rfl rfl cc_one HROW.out (HB.out.kept0 HKA.out) (fun k hk => Nat.le_trans hsz01 hk) (by rw [b8s_length, HL1.out]; omega) ?_; intro v2 w2 hrow2 hk2 hob2)
  have HK2 := Lib.hid (HKA.out.trans hk2 fun k hk => .inr (Nat.le_trans hsz1 (HROW.out.2 k hk)))
  have hne4 : ∀ k, OB v1 k → k ≠ g4 := fun k hk => by have := HROW.out.2 k hk; have := HZ0.out.lt; omega
  have HZ2 := Lib.hid (HZ1.out.kept hk2 (fun h => hne4 g4 h rfl))
  rw [← b8s_append] at hrow2
  obtain ⟨A2, c2, rfl, hc2, hm2⟩ := hrow2.shape
  have hrd := hrow2.reads'
  have hXl : (b8s (K1 ++ b)).length = 64 + m := by rw [b8s_length, List.length_append, HL1.out, HBL.out]
  rw [hXl] at hc2 hrd ⊢
  obtain ⟨N, hN⟩ : ∃ N, 64 + m = N := ⟨_, rfl⟩
  have hNb : N ≤ 1099575 := by omega
  rw [hN] at hc2 hrd ⊢
  have hs := refSum_calls w2 _ A2 N c2 (K1 ++ b) hrd (by omega)
  have hlM := hm_len16 (K1 ++ b)
  obtain ⟨M, hM⟩ : ∃ M, md5P (K1 ++ b) = M := ⟨_, rfl⟩
  rw [hM] at hs hlM
  obtain ⟨r0, r1, r2, r3, r4, r5, r6, r7, r8, r9, r10, r11, r12, r13, r14, r15, hd, hv⟩ := hm_v16 M hlM
  rw [hv] at hs
  have HM := Lib.hid hM
  have HD := Lib.hid hd
  have HLM := Lib.hid hlM
  have HS := Lib.hid hs
  clear hk2 hob2 hne4 hrow2 hrd hXl hN hs hM hd hv hlM HZ1 HKA HROW hsz01
  go_wp2_with fail
  (with_reducible refine HS.out.mono ?_)
  rintro en w3 ⟨rfl, hk⟩
  have HK3 := Lib.hid (HK2.out.trans' hk)
  have HZ3 := Lib.hid (HZ2.out.kept0 hk)
  clear hk HS HK2 HZ2
  go_upto_region 2 with (fail)
  have HK4 := Lib.hid (HK3.out.alloc (.cells #[.int .u8 (r0.toNat : Int), .int .u8 (r1.toNat : Int), .int .u8 (r2.toNat : Int), .int .u8 (r3.toNat : Int), .int .u8 (r4.toNat : Int), .int .u8 (r5.toNat : Int), .int .u8 (r6.toNat : Int), .int .u8 (r7.toNat : Int), .int .u8 (r8.toNat : Int), .int .u8 (r9.toNat : Int), .int .u8 (r10.toNat : Int), .int .u8 (r11.toNat : Int), .int .u8 (r12.toNat : Int), .int .u8 (r13.toNat : Int), .int .u8 (r14.toNat : Int), .int .u8 (r15.toNat : Int)] 48))
  have HZ4 := Lib.hid (HZ3.out.alloc (.cells #[.int .u8 (r0.toNat : Int), .int .u8 (r1.toNat : Int), .int .u8 (r2.toNat : Int), .int .u8 (r3.toNat : Int), .int .u8 (r4.toNat : Int), .int .u8 (r5.toNat : Int), .int .u8 (r6.toNat : Int), .int .u8 (r7.toNat : Int), .int .u8 (r8.toNat : Int), .int .u8 (r9.toNat : Int), .int .u8 (r10.toNat : Int), .int .u8 (r11.toNat : Int), .int .u8 (r12.toNat : Int), .int .u8 (r13.toNat : Int), .int .u8 (r14.toNat : Int), .int .u8 (r15.toNat : Int)] 48))
  have hb4 := Blk.new w3 48 #[.int .u8 (r0.toNat : Int), .int .u8 (r1.toNat : Int), .int .u8 (r2.toNat : Int), .int .u8 (r3.toNat : Int), .int .u8 (r4.toNat : Int), .int .u8 (r5.toNat : Int), .int .u8 (r6.toNat : Int), .int .u8 (r7.toNat : Int), .int .u8 (r8.toNat : Int), .int .u8 (r9.toNat : Int), .int .u8 (r10.toNat : Int), .int .u8 (r11.toNat : Int), .int .u8 (r12.toNat : Int), .int .u8 (r13.toNat : Int), .int .u8 (r14.toNat : Int), .int .u8 (r15.toNat : Int)]
  have e4 : (#[.int .u8 (r0.toNat : Int), .int .u8 (r1.toNat : Int), .int .u8 (r2.toNat : Int), .int .u8 (r3.toNat : Int), .int .u8 (r4.toNat : Int), .int .u8 (r5.toNat : Int), .int .u8 (r6.toNat : Int), .int .u8 (r7.toNat : Int), .int .u8 (r8.toNat : Int), .int .u8 (r9.toNat : Int), .int .u8 (r10.toNat : Int), .int .u8 (r11.toNat : Int), .int .u8 (r12.toNat : Int), .int .u8 (r13.toNat : Int), .int .u8 (r14.toNat : Int), .int .u8 (r15.toNat : Int)] : Array Value) = (b8s M).toArray := by rw [HD.out]; rfl
  generalize w3.alloc (.cells #[.int .u8 (r0.toNat : Int), .int .u8 (r1.toNat : Int), .int .u8 (r2.toNat : Int), .int .u8 (r3.toNat : Int), .int .u8 (r4.toNat : Int), .int .u8 (r5.toNat : Int), .int .u8 (r6.toNat : Int), .int .u8 (r7.toNat : Int), .int .u8 (r8.toNat : Int), .int .u8 (r9.toNat : Int), .int .u8 (r10.toNat : Int), .int .u8 (r11.toNat : Int), .int .u8 (r12.toNat : Int), .int .u8 (r13.toNat : Int), .int .u8 (r14.toNat : Int), .int .u8 (r15.toNat : Int)] 48) = W4 at *
  rw [e4] at hb4
  have HRD := Lib.hid (hm_reads hb4 16 HLM.out)
  clear hb4 e4
  obtain ⟨g5, hg5⟩ : ∃ g, w3.heap.size = g := ⟨_, rfl⟩
  rw [hg5] at HRD ⊢
  clear hg5 HK3 HZ3
  have hlN := hm_len16 (K2 ++ M)
  obtain ⟨N2, hN2⟩ : ∃ N, md5P (K2 ++ M) = N := ⟨_, rfl⟩
  rw [hN2] at hlN
  obtain ⟨q0, q1, q2, q3, q4, q5, q6, q7, q8, q9, q10, q11, q12, q13, q14, q15, hre, hv2⟩ := hm_v16 N2 hlN
  have HN2 := Lib.hid hN2
  have HRE := Lib.hid hre
  have HV2 := Lib.hid hv2
  clear hlN hN2 hre hv2
  have hpd : ∀ W, Kept W4 W NoB → Calls Tryd.prog 63 #[.slice A n c, .int .u8 92] W fun en w' => ∃ v, en = .returned v ∧ Kept W w' NoB ∧ Row w' 5 (fun b => W.heap.size ≤ b) v (b8s K2) := fun W k => by
    have hp := refPad_calls W S A n c key 92 (HA.out.kept0 (HK4.out.trans' k)) hn
    rw [show (((92 : UInt8).toNat : Nat) : Int) = 92 from rfl] at hp
    simp only [HK2E.out] at hp
    exact hp
  have HPD := Lib.hid hpd
  clear hpd
  have kk0 : Kept W4 W4.drew NoB := (Kept.refl W4 NoB).drew
  have hZe := HZ.out
  go_region_law (first
    | (refine step_appN (W := w5) (by simp [Region.wanted, yielded, Act.put]) (.tmp 12) (.tmp 13) 27 5 (.int .u8 0) 1 rfl Tryd.underlying27 cc_info rfl (by decide) (fun b => W4.heap.size ≤ b) _ v5 (b8s K2) (b8s M) (some ⟨g5, 0, none⟩) 16 16 rfl rfl cc_one HR5.out (HRD.out.kept0 kk5) (fun k hk => Nat.le_trans kk5.size hk) (by rw [b8s_length, HL2.out]; omega) ?_; intro v6 w6 hrow6 hk6 hob6; have kk6 : Kept W4 w6 NoB := kk5.trans hk6 (fun k hk => .inr (HR5.out.2 k hk)); rw [← b8s_append] at hrow6; obtain ⟨A6, c6, hv6, hc6, hm6⟩ := hrow6.shape; subst hv6; have hrd6 := hrow6.reads'; have hXl6 : (b8s (K2 ++ M)).length = 80 := (by rw [b8s_length, List.length_append, HL2.out, HLM.out]); rw [hXl6] at hrd6 ⊢)
    | (go_simp; go_at_call 63; (with_reducible refine (HPD.out _ kk0).mono ?_); rintro en w5 ⟨v5, rfl, hk5, hrow5⟩; have kk5 := kk0.trans' hk5; have HR5 := Lib.hid (hrow5.mono (T := fun b => W4.heap.size ≤ b) (fun k _ h => Nat.le_trans kk0.size h)); clear hrow5)
    | (go_simp; go_at_call 33; have hs6 := refSum_calls w6 _ A6 80 c6 (K2 ++ M) hrd6 (by omega); rw [HN2.out, HV2.out] at hs6; (with_reducible refine hs6.mono ?_); rintro en w7 ⟨rfl, hk7⟩; clear hs6; have kk7 := kk6.trans' hk7; have HZ7 := HZ4.out.kept0 kk7; rw [← hZe] at HZ7; have d0 : w7.cell? ⟨g4, 0, none⟩ = some (.int .u8 0) := HZ7.cell 0; have f0 := HZ7.frozen 0; have d1 : w7.cell? ⟨g4, 1, none⟩ = some (.int .u8 0) := HZ7.cell 1; have f1 := HZ7.frozen 1; have d2 : w7.cell? ⟨g4, 2, none⟩ = some (.int .u8 0) := HZ7.cell 2; have f2 := HZ7.frozen 2; have d3 : w7.cell? ⟨g4, 3, none⟩ = some (.int .u8 0) := HZ7.cell 3; have f3 := HZ7.frozen 3; have d4 : w7.cell? ⟨g4, 4, none⟩ = some (.int .u8 0) := HZ7.cell 4; have f4 := HZ7.frozen 4; have d5 : w7.cell? ⟨g4, 5, none⟩ = some (.int .u8 0) := HZ7.cell 5; have f5 := HZ7.frozen 5; have d6 : w7.cell? ⟨g4, 6, none⟩ = some (.int .u8 0) := HZ7.cell 6; have f6 := HZ7.frozen 6; have d7 : w7.cell? ⟨g4, 7, none⟩ = some (.int .u8 0) := HZ7.cell 7; have f7 := HZ7.frozen 7; have d8 : w7.cell? ⟨g4, 8, none⟩ = some (.int .u8 0) := HZ7.cell 8; have f8 := HZ7.frozen 8; have d9 : w7.cell? ⟨g4, 9, none⟩ = some (.int .u8 0) := HZ7.cell 9; have f9 := HZ7.frozen 9; have d10 : w7.cell? ⟨g4, 10, none⟩ = some (.int .u8 0) := HZ7.cell 10; have f10 := HZ7.frozen 10; have d11 : w7.cell? ⟨g4, 11, none⟩ = some (.int .u8 0) := HZ7.cell 11; have f11 := HZ7.frozen 11; have d12 : w7.cell? ⟨g4, 12, none⟩ = some (.int .u8 0) := HZ7.cell 12; have f12 := HZ7.frozen 12; have d13 : w7.cell? ⟨g4, 13, none⟩ = some (.int .u8 0) := HZ7.cell 13; have f13 := HZ7.frozen 13; have d14 : w7.cell? ⟨g4, 14, none⟩ = some (.int .u8 0) := HZ7.cell 14; have f14 := HZ7.frozen 14; have d15 : w7.cell? ⟨g4, 15, none⟩ = some (.int .u8 0) := HZ7.cell 15; have f15 := HZ7.frozen 15; have hgl7 := HZ7.lt))
  all_goals
    go_wp2_with fail
    refine bodyPost_ret (results_cell_row rfl _ _ g4 48 _ (0, 0) _ rfl (blk16 HZ7 q0 q1 q2 q3 q4 q5 q6 q7 q8 q9 q10 q11 q12 q13 q14 q15) Tryd.underlying48 rfl (by kernel_rfl)) rfl ?_
    have e2 : w.heap.size ≤ g4 := by rw [HG4.out]; exact Nat.le_refl _
    exact ⟨by rw [HRES.out, HM.out, HN2.out, HRE.out]; rfl, kept16 (HK4.out.trans' kk7) e2 _ _ _ _ _ _ _ _ _ _ _ _ _ _ _ _⟩
set_option maxHeartbeats 4000000 in
set_option maxRecDepth 100000 in
theorem refHhex_calls (w : World) (S T : Nat → Prop) (A : Option Addr) (n c : Nat) (key : List UInt8) (B : Option Addr) (m d : Nat) (b : List UInt8)
    (hA : Reads w S A n (b8s key)) (hn : n ≤ 1099511627) (hB : Reads w T B m (b8s b)) (hm : m ≤ 1099511) :
    Calls Tryd.prog 30 #[.slice A n c, .slice B m d] w fun en w' => en = .returned (.string (strB (hexL (hmacP key b)))) ∧ Kept w w' NoB := by
  have hs := refHmac_calls w S T A n c key B m d b hA hn hB hm
  have hl := hmac_len key b
  obtain ⟨M, hM⟩ : ∃ M, hmacP key b = M := ⟨_, rfl⟩
  rw [hM] at hs hl
  obtain ⟨r0, r1, r2, r3, r4, r5, r6, r7, r8, r9, r10, r11, r12, r13, r14, r15, hd, hv⟩ := hm_v16 M hl
  rw [hv] at hs
  have HS := Lib.hid hs
  have HM := Lib.hid hM
  have HD := Lib.hid hd
  have HL := Lib.hid hl
  clear hs hl hM hd hv hA hB
  go_enter Tryd.func30, Tryd.ntmps30
  go_wp2_with fail
  (with_reducible refine HS.out.mono ?_)
  rintro en w1 ⟨rfl, hk⟩
  have HK1 := Lib.hid hk
  clear hk
  go_upto_region 2 with (fail)
  have HK2 := Lib.hid (HK1.out.alloc (.cells #[.int .u8 (r0.toNat : Int), .int .u8 (r1.toNat : Int), .int .u8 (r2.toNat : Int), .int .u8 (r3.toNat : Int), .int .u8 (r4.toNat : Int), .int .u8 (r5.toNat : Int), .int .u8 (r6.toNat : Int), .int .u8 (r7.toNat : Int), .int .u8 (r8.toNat : Int), .int .u8 (r9.toNat : Int), .int .u8 (r10.toNat : Int), .int .u8 (r11.toNat : Int), .int .u8 (r12.toNat : Int), .int .u8 (r13.toNat : Int), .int .u8 (r14.toNat : Int), .int .u8 (r15.toNat : Int)] 48))
  have hb2 := Blk.new w1 48 #[.int .u8 (r0.toNat : Int), .int .u8 (r1.toNat : Int), .int .u8 (r2.toNat : Int), .int .u8 (r3.toNat : Int), .int .u8 (r4.toNat : Int), .int .u8 (r5.toNat : Int), .int .u8 (r6.toNat : Int), .int .u8 (r7.toNat : Int), .int .u8 (r8.toNat : Int), .int .u8 (r9.toNat : Int), .int .u8 (r10.toNat : Int), .int .u8 (r11.toNat : Int), .int .u8 (r12.toNat : Int), .int .u8 (r13.toNat : Int), .int .u8 (r14.toNat : Int), .int .u8 (r15.toNat : Int)]
  have e2 : (#[.int .u8 (r0.toNat : Int), .int .u8 (r1.toNat : Int), .int .u8 (r2.toNat : Int), .int .u8 (r3.toNat : Int), .int .u8 (r4.toNat : Int), .int .u8 (r5.toNat : Int), .int .u8 (r6.toNat : Int), .int .u8 (r7.toNat : Int), .int .u8 (r8.toNat : Int), .int .u8 (r9.toNat : Int), .int .u8 (r10.toNat : Int), .int .u8 (r11.toNat : Int), .int .u8 (r12.toNat : Int), .int .u8 (r13.toNat : Int), .int .u8 (r14.toNat : Int), .int .u8 (r15.toNat : Int)] : Array Value) = (b8s M).toArray := by rw [HD.out]; rfl
  generalize w1.alloc (.cells #[.int .u8 (r0.toNat : Int), .int .u8 (r1.toNat : Int), .int .u8 (r2.toNat : Int), .int .u8 (r3.toNat : Int), .int .u8 (r4.toNat : Int), .int .u8 (r5.toNat : Int), .int .u8 (r6.toNat : Int), .int .u8 (r7.toNat : Int), .int .u8 (r8.toNat : Int), .int .u8 (r9.toNat : Int), .int .u8 (r10.toNat : Int), .int .u8 (r11.toNat : Int), .int .u8 (r12.toNat : Int), .int .u8 (r13.toNat : Int), .int .u8 (r14.toNat : Int), .int .u8 (r15.toNat : Int)] 48) = W2 at *
  rw [e2] at hb2
  have HRD := Lib.hid (hm_reads hb2 16 HL.out)
  clear hb2 e2
  go_wp2_with fail
  refine (refHex_calls W2 _ _ 16 16 M HRD.out (by omega)).mono ?_
  rintro en w3 ⟨rfl, hk⟩
  have HK3 := Lib.hid (HK2.out.trans' hk)
  clear hk
  go_wp2_with fail
  go_ret
  exact ⟨by rw [HM.out]; rfl, HK3.out⟩
end Go.Proofs.YthnebhnlkjkcmaaDoor
