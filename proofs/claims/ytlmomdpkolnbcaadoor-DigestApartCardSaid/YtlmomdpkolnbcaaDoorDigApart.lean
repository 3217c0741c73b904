/- DigestApart's walk. (Printed by gen_digapart.py.) -/
import Derived.Test.YtlmomdpkolnbcaaDoorDigJoins
import Derived.Test.YtlmomdpkolnbcaaDoorRowSet
import Derived.Deep.RegionHeld3
set_option linter.unusedVariables false
set_option linter.unusedSimpArgs false
namespace Go.Proofs.YtlmomdpkolnbcaaDoor
open Go.RowKit Go.Shelf Go.Lib

theorem xor_u8_bd (a b : Int) : ∃ y : UInt8, bits .xor .u8 a b = (y.toNat : Int) := by
  have h : ∃ z : Int, bits .xor .u8 a b = IntKind.u8.wrap z := ⟨_, rfl⟩
  obtain ⟨z, hz⟩ := h
  rw [hz, IntKind.wrap_u8]
  have h0 : 0 ≤ z % 256 := Int.emod_nonneg _ (by decide)
  have h1 : z % 256 < 256 := Int.emod_lt_of_pos _ (by decide)
  exact ⟨UInt8.ofNat (z % 256).toNat, by simp; omega⟩
set_option maxHeartbeats 16000000 in
set_option maxRecDepth 100000 in
theorem apart_law (w : World) (A : Option Addr) (n c : Nat) (l0 : List UInt8) (hR : Reads w (fun k => k < w.heap.size) A n (b8s l0)) (hnc : n ≤ c) (hcb : c ≤ 9223372036854775807) (a x : Nat) (ha : a ≤ 65535) (hx : x < 256) (hC : SinC w) :
    Calls Tryd.prog 4 #[.slice A n c, .int .u16 (a : Int), .int .u8 (x : Int)] w fun en w' => en = .returned (.bool true) ∧ Below w.heap.size w w' := by
  obtain ⟨l, hl⟩ : ∃ l, l0.take 600 = l := ⟨_, rfl⟩
  obtain ⟨cB, hcB⟩ : ∃ c : UInt8, c.toNat = x := ⟨UInt8.ofNat x, by simp; omega⟩
  have HL := Lib.hid hl
  have HCB := Lib.hid hcB
  have HR := Lib.hid hR
  have HC := Lib.hid hC
  clear hl hcB hR hC
  have hls := md5_len (l)
  obtain ⟨Ms, hMs⟩ : ∃ M, md5P (l) = M := ⟨_, rfl⟩
  rw [hMs] at hls
  obtain ⟨s0, s1, s2, s3, s4, s5, s6, s7, s8, s9, s10, s11, s12, s13, s14, s15, hds, hvs⟩ := v16_lit Ms hls
  have HMs := Lib.hid hMs
  have HDs := Lib.hid hds
  have HVs := Lib.hid hvs
  have HLs := Lib.hid hls
  clear hls hMs hds hvs
  have hlr := md5_len (l ++ [cB])
  obtain ⟨Mr, hMr⟩ : ∃ M, md5P (l ++ [cB]) = M := ⟨_, rfl⟩
  rw [hMr] at hlr
  obtain ⟨r0, r1, r2, r3, r4, r5, r6, r7, r8, r9, r10, r11, r12, r13, r14, r15, hdr, hvr⟩ := v16_lit Mr hlr
  have HMr := Lib.hid hMr
  have HDr := Lib.hid hdr
  have HVr := Lib.hid hvr
  have HLr := Lib.hid hlr
  clear hlr hMr hdr hvr
  obtain ⟨cs, hcs⟩ : ∃ c, b8s Ms = c := ⟨_, rfl⟩
  have HBs := Lib.hid hcs
  clear hcs
  obtain ⟨cr, hcr⟩ : ∃ c, b8s Mr = c := ⟨_, rfl⟩
  have HBr := Lib.hid hcr
  clear hcr
  obtain ⟨br, hbr⟩ : ∃ b, (Mr == Ms) = b := ⟨_, rfl⟩
  have HQr : Hid (∀ W : World, (Op.equalIn 10000 25 (.agg cr.toArray) (.agg cs.toArray)).run Tryd.prog W = .ok br W) := Lib.hid fun W => by
    have := eq16 W Mr Ms HLr.out HLs.out
    rw [hbr] at this
    rw [← HBr.out, ← HBs.out]
    exact this
  clear hbr
  go_enter Tryd.func4, Tryd.ntmps4
  go_wp2_with fail
  refine (shown_calls w HC.out).mono ?_
  rintro en w1 ⟨rfl, hk⟩
  have HK1 := Lib.hid hk
  clear hk
  go_wp2_with fail
  refine (short_calls w1 _ A n c l0 (HR.out.kept0 HK1.out) hnc).mono ?_
  rintro en w1' ⟨m, rfl, rfl, hmc, hm6, hrd⟩
  rw [HL.out] at hrd
  have HRD := Lib.hid hrd
  have hml : l.length = m := by have := hrd.1; rwa [b8s_length] at this
  have HML := Lib.hid hml
  clear hrd hml
  have HSs : Hid (∀ W, Kept w1' W NoB → Calls Tryd.prog 10 #[.slice A m c] W fun en w' => en = .returned (.agg #[.int .u8 (s0.toNat : Int), .int .u8 (s1.toNat : Int), .int .u8 (s2.toNat : Int), .int .u8 (s3.toNat : Int), .int .u8 (s4.toNat : Int), .int .u8 (s5.toNat : Int), .int .u8 (s6.toNat : Int), .int .u8 (s7.toNat : Int), .int .u8 (s8.toNat : Int), .int .u8 (s9.toNat : Int), .int .u8 (s10.toNat : Int), .int .u8 (s11.toNat : Int), .int .u8 (s12.toNat : Int), .int .u8 (s13.toNat : Int), .int .u8 (s14.toNat : Int), .int .u8 (s15.toNat : Int)]) ∧ Kept W w' NoB) := Lib.hid fun W k => by
    have := sum_any W _ A m c (l) (HRD.out.kept0 k) hmc (by omega) hcb (HC.out.kept0 (HK1.out.trans' k))
    rw [HMs.out, HVs.out] at this
    exact this
  have HFs : Hid (∀ W, Kept w1' W NoB → Calls Tryd.prog 12 #[.slice A m c] W fun en w' => en = .returned (.agg cs.toArray) ∧ Kept W w' NoB) := Lib.hid fun W k => by
    have := refSum_calls W _ A m c (l) (HRD.out.kept0 k) (by omega)
    rw [HMs.out] at this
    rw [← HBs.out]
    exact this
  go_wp2_with fail
  (with_reducible refine (HSs.out w1' (Kept.refl _ _)).mono ?_)
  rintro en w2 ⟨rfl, hk⟩
  have HK2 := Lib.hid (HK1.out.trans' hk)
  have HZ2 := Lib.hid hk
  clear hk
  go_upto_region 4 with (fail)
  have HK3 := Lib.hid (HK2.out.alloc (.cells #[.int .u8 (s0.toNat : Int), .int .u8 (s1.toNat : Int), .int .u8 (s2.toNat : Int), .int .u8 (s3.toNat : Int), .int .u8 (s4.toNat : Int), .int .u8 (s5.toNat : Int), .int .u8 (s6.toNat : Int), .int .u8 (s7.toNat : Int), .int .u8 (s8.toNat : Int), .int .u8 (s9.toNat : Int), .int .u8 (s10.toNat : Int), .int .u8 (s11.toNat : Int), .int .u8 (s12.toNat : Int), .int .u8 (s13.toNat : Int), .int .u8 (s14.toNat : Int), .int .u8 (s15.toNat : Int)] 25))
  have HZ3 := Lib.hid (HZ2.out.alloc (.cells #[.int .u8 (s0.toNat : Int), .int .u8 (s1.toNat : Int), .int .u8 (s2.toNat : Int), .int .u8 (s3.toNat : Int), .int .u8 (s4.toNat : Int), .int .u8 (s5.toNat : Int), .int .u8 (s6.toNat : Int), .int .u8 (s7.toNat : Int), .int .u8 (s8.toNat : Int), .int .u8 (s9.toNat : Int), .int .u8 (s10.toNat : Int), .int .u8 (s11.toNat : Int), .int .u8 (s12.toNat : Int), .int .u8 (s13.toNat : Int), .int .u8 (s14.toNat : Int), .int .u8 (s15.toNat : Int)] 25))
  have HN3 := Lib.hid (Blk.new w2 25 #[.int .u8 (s0.toNat : Int), .int .u8 (s1.toNat : Int), .int .u8 (s2.toNat : Int), .int .u8 (s3.toNat : Int), .int .u8 (s4.toNat : Int), .int .u8 (s5.toNat : Int), .int .u8 (s6.toNat : Int), .int .u8 (s7.toNat : Int), .int .u8 (s8.toNat : Int), .int .u8 (s9.toNat : Int), .int .u8 (s10.toNat : Int), .int .u8 (s11.toNat : Int), .int .u8 (s12.toNat : Int), .int .u8 (s13.toNat : Int), .int .u8 (s14.toNat : Int), .int .u8 (s15.toNat : Int)])
  generalize w2.alloc (.cells #[.int .u8 (s0.toNat : Int), .int .u8 (s1.toNat : Int), .int .u8 (s2.toNat : Int), .int .u8 (s3.toNat : Int), .int .u8 (s4.toNat : Int), .int .u8 (s5.toNat : Int), .int .u8 (s6.toNat : Int), .int .u8 (s7.toNat : Int), .int .u8 (s8.toNat : Int), .int .u8 (s9.toNat : Int), .int .u8 (s10.toNat : Int), .int .u8 (s11.toNat : Int), .int .u8 (s12.toNat : Int), .int .u8 (s13.toNat : Int), .int .u8 (s14.toNat : Int), .int .u8 (s15.toNat : Int)] 25) = W3 at *
  obtain ⟨g8, hg8⟩ : ∃ g, w2.heap.size = g := ⟨_, rfl⟩
  rw [hg8] at HN3 ⊢
  clear hg8
  go_wp2_with (first
    | (at_builtin; refine wpList_appN (W := W3.alloc (.cells #[] 5)) rfl _ _ 22 5 (.int .u8 0) 1 rfl Tryd.underlying22 info_u8z rfl (by decide) (fun b => W3.heap.size ≤ b) _ (.slice (some ⟨W3.heap.size, 0, none⟩) 0 0) [] (b8s l) A m c rfl rfl mem_b8s_one (Row.made0 W3 5 _ (Nat.le_refl _)) ((HRD.out.kept0 HZ3.out).alloc _) (fun k hk => by simp at hk; omega) (by simp; omega) ?_; intro v4 w4 hrow4 hk4 hob4)
    | (at_builtin; refine wpList_app1 (W := w4) rfl _ _ 22 5 (.int .u8 0) 1 rfl Tryd.underlying22 info_u8z rfl (by decide) (fun b => W3.heap.size ≤ b) v4 (b8s l) (.int .u8 (x : Int)) rfl rfl rfl (by simpa using hrow4) (fun k hk => by have := hk4.size; simp at this; omega) (by rw [b8s_length, HML.out]; omega) ?_; intro v5 w5 hrow5 hk5 hob5))
  have hk35 : Kept W3 w5 NoB := (((Kept.refl W3 NoB).alloc (.cells #[] 5)).trans hk4 (fun k hk => .inr (by have := ob_lit hk; omega))).trans hk5 fun k hk => .inr (hrow4.2 k hk)
  have HK5 := Lib.hid (HK3.out.trans' hk35)
  have HZ5 := Lib.hid (HZ3.out.trans' hk35)
  have HN5 := Lib.hid (HN3.out.kept0 hk35)
  have hxs : b8s l ++ [.int .u8 (x : Int)] = b8s (l ++ [cB]) := by rw [b8s_append, ← HCB.out]; rfl
  rw [hxs] at hrow5
  obtain ⟨D, cD, rfl, hcD, hmD⟩ := hrow5.shape
  have hrd5 := hrow5.reads'
  have hlen5 : (b8s (l ++ [cB])).length = m + 1 := by rw [b8s_length, List.length_append, HML.out]; rfl
  rw [hlen5] at hrd5 hcD ⊢
  obtain ⟨N, hN⟩ : ∃ N, m + 1 = N := ⟨_, rfl⟩
  have hNb : N ≤ 601 := by omega
  rw [hN] at hrd5 hcD ⊢
  have HRM := Lib.hid (hrd5.mono (T := fun _ => True) fun _ _ _ => trivial)
  unfold maxLen at hmD
  clear hrow4 hk4 hob4 hrow5 hk5 hob5 hrd5 hlen5 hN hxs hk35
  have HSr : Hid (∀ W, Kept w5 W NoB → Calls Tryd.prog 10 #[.slice D N cD] W fun en w' => en = .returned (.agg cr.toArray) ∧ Kept W w' NoB) := Lib.hid fun W k => by
    have := sum_any W _ D N cD (l ++ [cB]) (HRM.out.kept0 k) hcD (by omega) hmD (HC.out.kept0 (HK5.out.trans' k))
    rw [HMr.out] at this
    rw [← HBr.out]
    exact this
  have HFr : Hid (∀ W, Kept w5 W NoB → Calls Tryd.prog 12 #[.slice D N cD] W fun en w' => en = .returned (.agg cr.toArray) ∧ Kept W w' NoB) := Lib.hid fun W k => by
    have := refSum_calls W _ D N cD (l ++ [cB]) (HRM.out.kept0 k) (by omega)
    rw [HMr.out] at this
    rw [← HBr.out]
    exact this
  have hlit : (#[.int .u8 (s0.toNat : Int), .int .u8 (s1.toNat : Int), .int .u8 (s2.toNat : Int), .int .u8 (s3.toNat : Int), .int .u8 (s4.toNat : Int), .int .u8 (s5.toNat : Int), .int .u8 (s6.toNat : Int), .int .u8 (s7.toNat : Int), .int .u8 (s8.toNat : Int), .int .u8 (s9.toNat : Int), .int .u8 (s10.toNat : Int), .int .u8 (s11.toNat : Int), .int .u8 (s12.toNat : Int), .int .u8 (s13.toNat : Int), .int .u8 (s14.toNat : Int), .int .u8 (s15.toNat : Int)] : Array Value) = cs.toArray := by rw [← HBs.out, HDs.out]; rfl
  rw [hlit] at HN5
  clear hlit
  have hcl : cs.length = 16 := by rw [← HBs.out, b8s_length, HLs.out]
  have hrg : ∀ W, Blk W g8 25 cs.toArray → W.rangeAt g8 0 cs := fun W hb j v hv => by
    rw [Nat.zero_add, hb.cell, List.getElem?_toArray, hv]
  have HRG := Lib.hid hrg
  have hinf : (Tryd.prog.info? 25).map (·.size) = some cs.length := by rw [hcl]; kernel_rfl
  have hund := Tryd.underlying25
  clear hrg hcl
  go_upto_region 5 with (fail)
  have kk0 : Kept w5 w5.drew NoB := (Kept.refl w5 NoB).drew
  have hq := HQr.out
  go_region_held3 (fun w' => Kept w5 w' NoB ∧ w'.rangeAt g8 0 cs) (first | exact ⟨kk0, HRG.out _ (HN5.out.kept0 kk0)⟩ | exact ⟨kk1, HRG.out _ (HN5.out.kept0 kk1)⟩ | exact ⟨kk2, HRG.out _ (HN5.out.kept0 kk2)⟩ | exact ⟨kk3, HRG.out _ (HN5.out.kept0 kk3)⟩) (first
    | (go_at_call 10; (with_reducible refine (HSr.out _ kk0).mono ?_); rintro en w6 ⟨rfl, hk6⟩; have kk1 := kk0.trans' hk6)
    | (go_at_call 12; (with_reducible refine (HFr.out _ kk1).mono ?_); rintro en w7 ⟨rfl, hk7⟩; have kk2 := kk1.trans' hk7)
    | (go_at_call 12; (with_reducible refine (HFs.out _ (HZ5.out.trans' kk2)).mono ?_); rintro en w8 ⟨rfl, hk8⟩; have kk3 := kk2.trans' hk8))
  have HK8 := Lib.hid (HK5.out.trans' kk3)
  have HZ8 := Lib.hid (HZ5.out.trans' kk3)
  have HN8 := Lib.hid (HN5.out.kept0 kk3)
  clear kk0 kk1 kk2 kk3 hk6 hk7 hk8 hq HK5 HZ5 HN5 HSr HFr HRM HSs HQr
  by_cases hm0 : m = 0
  · have hz : ((m : Int) == 0) = true := by rw [beq_iff_eq]; omega
    clear hm0
    go_wp2_with fail
    go_ret
    exact ⟨rfl, HK8.out.below⟩
  · have hz : ((m : Int) == 0) = false := by rw [beq_eq_false_iff_ne]; omega
    obtain ⟨k, hk⟩ : ∃ k, a % (8 * m) = k := ⟨_, rfl⟩
    have hk8 : k < 8 * m := by rw [← hk]; exact Nat.mod_lt _ (by omega)
    have him : (a : Int) % (8 * (m : Int)) = (k : Int) := by rw [← hk]; rfl
    have HIM := Lib.hid him
    have hm1 : 0 < m := by omega
    clear hk him hm0
    go_upto_region 9 with (fail)
    rw [HIM.out]
    go_wp2_with (at_builtin; refine wpList_appN (W := w8.alloc (.cells #[] 5)) rfl _ _ 22 5 (.int .u8 0) 1 rfl Tryd.underlying22 info_u8z rfl (by decide) (fun b => w8.heap.size ≤ b) _ (.slice (some ⟨w8.heap.size, 0, none⟩) 0 0) [] (b8s l) A m c rfl rfl mem_b8s_one (Row.made0 w8 5 _ (Nat.le_refl _)) ((HRD.out.kept0 HZ8.out).alloc _) (fun k hk => by simp at hk; omega) (by simp; omega) ?_; intro v9 w9 hrow9 hk9 hob9)
    have hk89 : Kept w8 w9 NoB := ((Kept.refl w8 NoB).alloc (.cells #[] 5)).trans hk9 (fun k hk => .inr (by have := ob_lit hk; omega))
    have HK9 := Lib.hid (HK8.out.trans' hk89)
    have HZ9 := Lib.hid (HZ8.out.trans' hk89)
    have HN9 := Lib.hid (HN8.out.kept0 hk89)
    rw [List.nil_append] at hrow9
    have hbl : (b8s l).length = m := by rw [b8s_length, HML.out]
    obtain ⟨g, cT, cur, rfl, hSg, hblk, hcT, hmT, hcur⟩ := hrow9.form (by rw [hbl]; exact hm1)
    rw [hbl] at hrow9 hcT ⊢
    have HROW := Lib.hid hrow9
    have HBL := Lib.hid hbl
    have HCUR := Lib.hid hcur
    have h8 : w.heap.size ≤ w8.heap.size := HK8.out.size
    unfold maxLen at hmT
    obtain ⟨q, hq⟩ : ∃ q, k / 8 = q := ⟨_, rfl⟩
    obtain ⟨r, hr⟩ : ∃ r, k % 8 = r := ⟨_, rfl⟩
    have hqm : q < m := by omega
    have hr8 : r < 8 := by omega
    obtain ⟨y, hy⟩ : ∃ y, l[q]? = some y := ⟨_, List.getElem?_eq_getElem (by rw [HML.out]; exact hqm)⟩
    have hcell : w9.cell? ⟨g, q, none⟩ = some (.int .u8 (y.toNat : Int)) := by
      rw [hblk.cell]
      exact HCUR.out q _ (by unfold b8s; rw [List.getElem?_map, hy]; rfl)
    have hfz := hblk.frozen q
    have hgl := hblk.lt
    have hylt := y.toNat_lt
    obtain ⟨yn, hyn⟩ : ∃ n, y.toNat = n := ⟨_, rfl⟩
    rw [hyn] at hcell hylt
    have t1 : (q : Int) < (m : Int) := by omega
    have t2 : (0 : Int) ≤ (q : Int) := by omega
    have t3 : (0 : Int) ≤ (r : Int) := by omega
    have e1 : (k : Int) / 8 = (q : Int) := by omega
    have e1' : (k : Int).tdiv 8 = (q : Int) := by rw [Int.tdiv_eq_ediv_of_nonneg (by omega)]; exact e1
    have e2 : (k : Int) % 8 = (r : Int) := by omega
    have e2' : (k : Int).tmod 8 = (r : Int) := by rw [Int.tmod_eq_emod_of_nonneg (by omega)]; exact e2
    have e3 : IntKind.i64.wrap (q : Int) = (q : Int) := IntWalk.i64_in _ (by omega)
    clear hk89 hk9 hob9 hrow9 hbl hcur hq hr hyn
    go_wp2_with fail
    go_region
    obtain ⟨y', hy'⟩ := xor_u8_bd (yn : Int) (2 ^ r % 256)
    rw [hy']
    have hrs := (HROW.out.set q (B8 y')).drew
    have hset : (b8s l).set q (B8 y') = b8s (l.set q y') := by unfold b8s; rw [List.map_set]
    rw [hset] at hrs
    have hrd := hrs.reads'
    rw [b8s_length, List.length_set, HML.out] at hrd
    have hsz8 := HZ8.out.size
    have hg8lt : g8 < w8.heap.size := HN8.out.lt
    have hne : g8 ≠ g := by omega
    have HK10 := Lib.hid ((HK9.out.setCell (p := ⟨g, q, none⟩) (.inr (Nat.le_trans h8 hSg)) (B8 y')).drew)
    have HZ10 := Lib.hid ((HZ9.out.setCell (p := ⟨g, q, none⟩) (.inr (Nat.le_trans hsz8 hSg)) (B8 y')).drew)
    have HN10 := Lib.hid ((HN9.out.far (p := ⟨g, q, none⟩) hne (B8 y')).drew)
    have HRT := Lib.hid (hrd.mono (T := fun _ => True) fun _ _ _ => trivial)
    change Exit.then _ _ Exit.normal _ ((w9.setCell ⟨g, q, none⟩ (B8 y')).drew)
    clear hy' hrs hset hrd hcell hfz hgl t1 t2 t3 e1 e1' e2 e2' e3 HROW HBL HCUR hblk hSg HK9 HZ9 HN9 HK8 HZ8 HN8 hne hg8lt hsz8 h8
    generalize (w9.setCell ⟨g, q, none⟩ (B8 y')).drew = W10 at *
    have hlt := md5_len (l.set q y')
    obtain ⟨Mt, hMt⟩ : ∃ M, md5P (l.set q y') = M := ⟨_, rfl⟩
    rw [hMt] at hlt
    obtain ⟨t0, t1, t2, t3, t4, t5, t6, t7, t8, t9, t10, t11, t12, t13, t14, t15, hdt, hvt⟩ := v16_lit Mt hlt
    have HMt := Lib.hid hMt
    have HDt := Lib.hid hdt
    have HVt := Lib.hid hvt
    have HLt := Lib.hid hlt
    clear hlt hMt hdt hvt
    obtain ⟨ct, hct⟩ : ∃ c, b8s Mt = c := ⟨_, rfl⟩
    have HBt := Lib.hid hct
    clear hct
    obtain ⟨bt, hbt⟩ : ∃ b, (Mt == Ms) = b := ⟨_, rfl⟩
    have HQt : Hid (∀ W : World, (Op.equalIn 10000 25 (.agg ct.toArray) (.agg cs.toArray)).run Tryd.prog W = .ok bt W) := Lib.hid fun W => by
      have := eq16 W Mt Ms HLt.out HLs.out
      rw [hbt] at this
      rw [← HBt.out, ← HBs.out]
      exact this
    clear hbt
    have HSt : Hid (∀ W, Kept W10 W NoB → Calls Tryd.prog 10 #[.slice (some ⟨g, 0, none⟩) m cT] W fun en w' => en = .returned (.agg ct.toArray) ∧ Kept W w' NoB) := Lib.hid fun W k => by
      have := sum_any W _ (some ⟨g, 0, none⟩) m cT (l.set q y') (HRT.out.kept0 k) hcT (by omega) hmT (HC.out.kept0 (HK10.out.trans' k))
      rw [HMt.out] at this
      rw [← HBt.out]
      exact this
    have HFt : Hid (∀ W, Kept W10 W NoB → Calls Tryd.prog 12 #[.slice (some ⟨g, 0, none⟩) m cT] W fun en w' => en = .returned (.agg ct.toArray) ∧ Kept W w' NoB) := Lib.hid fun W k => by
      have := refSum_calls W _ (some ⟨g, 0, none⟩) m cT (l.set q y') (HRT.out.kept0 k) (by omega)
      rw [HMt.out] at this
      rw [← HBt.out]
      exact this
    go_upto_region 11 with (fail)
    have kk0 : Kept W10 W10.drew NoB := (Kept.refl W10 NoB).drew
    have hq := HQt.out
    go_region_held3 (fun w' => Kept W10 w' NoB ∧ w'.rangeAt g8 0 cs) (first | exact ⟨kk0, HRG.out _ (HN10.out.kept0 kk0)⟩ | exact ⟨kk1, HRG.out _ (HN10.out.kept0 kk1)⟩ | exact ⟨kk2, HRG.out _ (HN10.out.kept0 kk2)⟩ | exact ⟨kk3, HRG.out _ (HN10.out.kept0 kk3)⟩) (first
      | (go_at_call 10; (with_reducible refine (HSt.out _ kk0).mono ?_); rintro en w11 ⟨rfl, hk11⟩; have kk1 := kk0.trans' hk11)
      | (go_at_call 12; (with_reducible refine (HFt.out _ kk1).mono ?_); rintro en w12 ⟨rfl, hk12⟩; have kk2 := kk1.trans' hk12)
      | (go_at_call 12; (with_reducible refine (HFs.out _ (HZ10.out.trans' kk2)).mono ?_); rintro en w13 ⟨rfl, hk13⟩; have kk3 := kk2.trans' hk13))
    have HK13 := Lib.hid (HK10.out.trans' kk3)
    clear kk0 kk1 kk2 kk3 hk11 hk12 hk13 hq
    go_wp2_with fail
    go_ret
    exact ⟨rfl, HK13.out.below⟩
theorem digestApart_walk (W : World) (a0 : Option Addr) (len0 cap0 : Nat) (z0 : List Int) (a1 a2 : Int) (w0 : IsRow .u8 W a0 len0 cap0 z0) (_y0 : len0 * 1 ≤ 140737488351232) (w1 : (Lit.int .u16 a1).wf = true) (w2 : (Lit.int .u8 a2).wf = true) (hL : laidMetH Tryd.prog Rows.digestApartRow.laid W) (_hsh : W.ShapedOpen Tryd.prog) :
    Calls Tryd.prog 4 #[.slice a0 len0 cap0, .int .u16 a1, .int .u8 a2] W fun en w' => en = .returned (.bool true) ∧ Below W.heap.size W w' := by
  have h1 : 0 ≤ a1 ∧ a1 ≤ 65535 := by simpa [Lit.wf, IntKind.min, IntKind.max, IntKind.signed, IntKind.bits] using w1
  have h2 : 0 ≤ a2 ∧ a2 ≤ 255 := by simpa [Lit.wf, IntKind.min, IntKind.max, IntKind.signed, IntKind.bits] using w2
  have h := apart_law W a0 len0 cap0 _ w0.bytes_.2.1 w0.bytes_.2.2 w0.cap_le a1.toNat a2.toNat (by omega) (by omega) (SinC.of_laid hL)
  rwa [Int.toNat_of_nonneg h1.1, Int.toNat_of_nonneg h2.1] at h
end Go.Proofs.YtlmomdpkolnbcaaDoor
