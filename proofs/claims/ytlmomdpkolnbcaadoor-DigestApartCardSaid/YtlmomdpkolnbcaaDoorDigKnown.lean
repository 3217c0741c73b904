/- DigestKnown's walk. -/
import Derived.Test.YtlmomdpkolnbcaaDoorDigS
set_option linter.unusedVariables false
set_option linter.unusedSimpArgs false
namespace Go.Proofs.YtlmomdpkolnbcaaDoor
open Go.RowKit Go.Shelf Go.Lib

theorem short_calls (w : World) (S : Nat → Prop) (A : Option Addr) (n c : Nat) (l : List UInt8) (hr : Reads w S A n (b8s l)) (hc : n ≤ c) :
    Calls Tryd.prog 9 #[.slice A n c] w fun en w' => ∃ m, en = .returned (.slice A m c) ∧ w' = w ∧ m ≤ c ∧ m ≤ 600 ∧ Reads w S A m (b8s (l.take 600)) := by
  obtain ⟨hi0, hz1, hz0⟩ := info_u8
  have hl : l.length = n := by have := hr.1; rwa [b8s_length] at this
  go_enter Tryd.func9, Tryd.ntmps9
  by_cases h : (600 : Int) < (n : Int)
  · have hrA := hr.take (k := 600) (by omega)
    rw [b8s_take] at hrA
    have H := Lib.hid hl
    clear hl
    go_wp2
    go_ret
    exact ⟨600, rfl, rfl, by omega, by omega, hrA⟩
  · go_wp2
    go_ret
    refine ⟨n, rfl, rfl, hc, by omega, ?_⟩
    rw [List.take_of_length_le (by omega)]
    exact hr
@[go_sem] theorem gA16 : Tryd.prog.eqGuardType Tryd.prog.depth 25 = false := by kernel_rfl
theorem sizeU8 (w : World) : (sizeOf 5).run Tryd.prog w = .ok 1 w := by
  obtain ⟨i, hi, hs⟩ := info_u8
  simp [sizeOf, typeInfo, hi, hs]
theorem eq16 (w : World) (xs ys : List UInt8) (hx : xs.length = 16) (hy : ys.length = 16) : (Op.equalIn 10000 25 (v16 xs) (v16 ys)).run Tryd.prog w = .ok (xs == ys) w :=
  run_equalIn_bytes w 9998 25 5 16 Tryd.underlying25 Tryd.underlying5 sizeU8 xs ys hx hy
theorem info_u8z : (Tryd.prog.info? 5).map (fun i => (i.zero, i.size, i.bytes)) = some (some (.int .u8 0), 1, 1) := by kernel_rfl
theorem wpList_loadA {P : Program} {ops : Array Oper} {rest : List Oper} {o : Oper} {a : Act} {w : World} {Q : Exit → Act → World → Prop} (hw : Region.wanted o (yielded ops a.tmps) = true) (ty : TypeId) (x : Operand) (ho : o.op = .load ty x)
    (g : Nat) (hx : a.eval x = .pointer (some ⟨g, 0, none⟩)) (t : TypeId) (cs : Array Value) (fr : Nat × Nat) (d : TypeDesc) (hg : w.heap[g]? = some (.cells cs t fr))
    (hu : P.underlying ty = some d) (hd : (match d with | .struct _ | .array _ _ => true | _ => false) = true) (hi : (P.info? ty).map (·.size) = some cs.size)
    (h : wpList P ops Q rest (a.put o.dst (.agg cs)) w) : wpList P ops Q (o :: rest) a w :=
  wpList_step fun K hK => by rw [if_pos hw]; exact wp_load_row ty x ho g hx t cs fr d hg hu hd hi (hK _ _ h)
set_option maxHeartbeats 8000000 in
set_option maxRecDepth 100000 in
theorem known_law (w : World) (A : Option Addr) (n c : Nat) (l0 : List UInt8) (hR : Reads w (fun k => k < w.heap.size) A n (b8s l0)) (hnc : n ≤ c) (hcb : c ≤ 9223372036854775807) (hC : SinC w) :
    Calls Tryd.prog 3 #[.slice A n c] w fun en w' => en = .returned (.bool true) ∧ Below w.heap.size w w' := by
  have kc := fun (w : World) (C : Array Value) (n c : Nat) => Lib.run_convert_bytes_const (P := Tryd.prog) w 22 5 C n c Tryd.underlying22 Tryd.underlying5
  obtain ⟨l, hl⟩ : ∃ l, l0.take 600 = l := ⟨_, rfl⟩
  have hlr := md5_len (l)
  obtain ⟨Mr, hMr⟩ : ∃ M, md5P l = M := ⟨_, rfl⟩
  rw [hMr] at hlr
  obtain ⟨r0, r1, r2, r3, r4, r5, r6, r7, r8, r9, r10, r11, r12, r13, r14, r15, hdr, hvr⟩ := v16_lit Mr hlr
  have HMr := Lib.hid hMr
  have HDr := Lib.hid hdr
  have HVr := Lib.hid hvr
  have HLr := Lib.hid hlr
  clear hlr hMr hdr hvr
  have hls := md5_len ([97, 98, 99])
  have hxs := hex_abc
  obtain ⟨Ms, hMs⟩ : ∃ M, md5P [97, 98, 99] = M := ⟨_, rfl⟩
  rw [hMs] at hls hxs
  obtain ⟨s0, s1, s2, s3, s4, s5, s6, s7, s8, s9, s10, s11, s12, s13, s14, s15, hds, hvs⟩ := v16_lit Ms hls
  have HMs := Lib.hid hMs
  have HDs := Lib.hid hds
  have HVs := Lib.hid hvs
  have HLs := Lib.hid hls
  have HXs := Lib.hid hxs
  clear hxs
  clear hls hMs hds hvs
  have hlq := md5_len (num80)
  have hxq := hex_num
  obtain ⟨Mq, hMq⟩ : ∃ M, md5P num80 = M := ⟨_, rfl⟩
  rw [hMq] at hlq hxq
  obtain ⟨q0, q1, q2, q3, q4, q5, q6, q7, q8, q9, q10, q11, q12, q13, q14, q15, hdq, hvq⟩ := v16_lit Mq hlq
  have HMq := Lib.hid hMq
  have HDq := Lib.hid hdq
  have HVq := Lib.hid hvq
  have HLq := Lib.hid hlq
  have HXq := Lib.hid hxq
  clear hxq
  clear hlq hMq hdq hvq
  have heq : ∀ W : World, (Op.equalIn 10000 25 (.agg #[.int .u8 (r0.toNat : Int), .int .u8 (r1.toNat : Int), .int .u8 (r2.toNat : Int), .int .u8 (r3.toNat : Int), .int .u8 (r4.toNat : Int), .int .u8 (r5.toNat : Int), .int .u8 (r6.toNat : Int), .int .u8 (r7.toNat : Int), .int .u8 (r8.toNat : Int), .int .u8 (r9.toNat : Int), .int .u8 (r10.toNat : Int), .int .u8 (r11.toNat : Int), .int .u8 (r12.toNat : Int), .int .u8 (r13.toNat : Int), .int .u8 (r14.toNat : Int), .int .u8 (r15.toNat : Int)]) (.agg #[.int .u8 (r0.toNat : Int), .int .u8 (r1.toNat : Int), .int .u8 (r2.toNat : Int), .int .u8 (r3.toNat : Int), .int .u8 (r4.toNat : Int), .int .u8 (r5.toNat : Int), .int .u8 (r6.toNat : Int), .int .u8 (r7.toNat : Int), .int .u8 (r8.toNat : Int), .int .u8 (r9.toNat : Int), .int .u8 (r10.toNat : Int), .int .u8 (r11.toNat : Int), .int .u8 (r12.toNat : Int), .int .u8 (r13.toNat : Int), .int .u8 (r14.toNat : Int), .int .u8 (r15.toNat : Int)])).run Tryd.prog W = .ok true W := fun W => by
    have := eq16 W Mr Mr HLr.out HLr.out
    rw [HVr.out] at this
    rw [this]
    simp
  have HEQ := Lib.hid heq
  have HR := Lib.hid hR
  have HC := Lib.hid hC
  have HLL := Lib.hid hl
  clear heq hR hC hl
  go_enter Tryd.func3, Tryd.ntmps3
  go_wp2_with fail
  refine (shown_calls w HC.out).mono ?_
  rintro en w1 ⟨rfl, hk⟩
  have HK1 := Lib.hid hk
  clear hk
  go_wp2_with fail
  refine (short_calls w1 _ A n c l0 (HR.out.kept0 HK1.out) hnc).mono ?_
  rintro en w1' ⟨m, rfl, rfl, hmc, hm6, hrd⟩
  rw [HLL.out] at hrd
  have HRD := Lib.hid hrd
  have hst := hrd.string 22 5 9 Tryd.underlying22 Tryd.underlying5 Tryd.underlying9 c
  clear hrd
  go_wp2_with fail
  have hs := sum_any w1' _ A m c l HRD.out hmc (by omega) hcb (HC.out.kept0 HK1.out)
  rw [HMr.out, HVr.out] at hs
  refine hs.mono ?_
  clear hs hst
  rintro en w2 ⟨rfl, hk⟩
  have HK2 := Lib.hid (HK1.out.trans' hk)
  have HR2 := Lib.hid (HRD.out.kept0 hk)
  clear hk
  go_upto_region 5 with (fail)
  have HK3 := Lib.hid (HK2.out.alloc (.cells #[.int .u8 (r0.toNat : Int), .int .u8 (r1.toNat : Int), .int .u8 (r2.toNat : Int), .int .u8 (r3.toNat : Int), .int .u8 (r4.toNat : Int), .int .u8 (r5.toNat : Int), .int .u8 (r6.toNat : Int), .int .u8 (r7.toNat : Int), .int .u8 (r8.toNat : Int), .int .u8 (r9.toNat : Int), .int .u8 (r10.toNat : Int), .int .u8 (r11.toNat : Int), .int .u8 (r12.toNat : Int), .int .u8 (r13.toNat : Int), .int .u8 (r14.toNat : Int), .int .u8 (r15.toNat : Int)] 25))
  have HR3 := Lib.hid (HR2.out.alloc (.cells #[.int .u8 (r0.toNat : Int), .int .u8 (r1.toNat : Int), .int .u8 (r2.toNat : Int), .int .u8 (r3.toNat : Int), .int .u8 (r4.toNat : Int), .int .u8 (r5.toNat : Int), .int .u8 (r6.toNat : Int), .int .u8 (r7.toNat : Int), .int .u8 (r8.toNat : Int), .int .u8 (r9.toNat : Int), .int .u8 (r10.toNat : Int), .int .u8 (r11.toNat : Int), .int .u8 (r12.toNat : Int), .int .u8 (r13.toNat : Int), .int .u8 (r14.toNat : Int), .int .u8 (r15.toNat : Int)] 25))
  have HN3 := Lib.hid (Blk.new w2 25 #[.int .u8 (r0.toNat : Int), .int .u8 (r1.toNat : Int), .int .u8 (r2.toNat : Int), .int .u8 (r3.toNat : Int), .int .u8 (r4.toNat : Int), .int .u8 (r5.toNat : Int), .int .u8 (r6.toNat : Int), .int .u8 (r7.toNat : Int), .int .u8 (r8.toNat : Int), .int .u8 (r9.toNat : Int), .int .u8 (r10.toNat : Int), .int .u8 (r11.toNat : Int), .int .u8 (r12.toNat : Int), .int .u8 (r13.toNat : Int), .int .u8 (r14.toNat : Int), .int .u8 (r15.toNat : Int)])
  generalize w2.alloc (.cells #[.int .u8 (r0.toNat : Int), .int .u8 (r1.toNat : Int), .int .u8 (r2.toNat : Int), .int .u8 (r3.toNat : Int), .int .u8 (r4.toNat : Int), .int .u8 (r5.toNat : Int), .int .u8 (r6.toNat : Int), .int .u8 (r7.toNat : Int), .int .u8 (r8.toNat : Int), .int .u8 (r9.toNat : Int), .int .u8 (r10.toNat : Int), .int .u8 (r11.toNat : Int), .int .u8 (r12.toNat : Int), .int .u8 (r13.toNat : Int), .int .u8 (r14.toNat : Int), .int .u8 (r15.toNat : Int)] 25) = W3 at *
  obtain ⟨g3, hg⟩ : ∃ g, w2.heap.size = g := ⟨_, rfl⟩
  rw [hg] at HN3 ⊢
  clear hg
  go_wp2_with (at_builtin; refine wpList_appN (W := W3.alloc (.cells #[] 5)) rfl _ _ 22 5 (.int .u8 0) 1 rfl Tryd.underlying22 info_u8z rfl (by decide) (fun b => W3.heap.size ≤ b) _ (.slice (some ⟨W3.heap.size, 0, none⟩) 0 0) [] (b8s l) A m c rfl rfl (fun u hu => by obtain ⟨b, _, rfl⟩ := List.mem_map.1 hu; rfl) (Row.made0 W3 5 _ (Nat.le_refl _)) (HR3.out.alloc _) (fun k hk => by simp at hk; omega) (by simp; omega) ?_; intro v4 w4 hrow4 hk4 hob4)
  obtain ⟨A4, c4, hv4, hc4, hm4⟩ := hrow4.shape
  rw [List.nil_append, b8s_length] at hv4 hc4
  have hr4 := hrow4.readsN (n := l.length) (by simp [b8s])
  subst hv4
  obtain ⟨A4', c4', hv', _, hr4⟩ := hr4
  injection hv' with e1 e2 e3
  subst e1
  subst e3
  rw [List.nil_append] at hr4
  have hll : l.length = m := by have := HRD.out.1; rwa [b8s_length] at this
  have HK4 := Lib.hid ((HK3.out.alloc (.cells #[] 5)).trans hk4 fun b hb => .inr (by have hb' : W3.heap.size = b := (by simpa [OB, Value.ownBlock] using hb); rw [← hb']; exact HK3.out.size))
  have HN4 := Lib.hid ((HN3.out.alloc (.cells #[] 5)).kept hk4 (by intro hb; have hb' : W3.heap.size = g3 := (by simpa [OB, Value.ownBlock] using hb); have := HN3.out.lt; omega))
  have HR4 := Lib.hid ((HR3.out.alloc (.cells #[] 5)).kept hk4 (fun b hb1 hb2 hb => by have hb' : W3.heap.size = b := (by simpa [OB, Value.ownBlock] using hb); have := HK3.out.size; omega))
  have HRW := Lib.hid hr4
  have HLM := Lib.hid hll
  unfold maxLen at hm4
  clear hr4 hk4 hob4 hrow4 e2 hll
  have hs := sum_any w4 _ A4 l.length c4 l HRW.out hc4 (by have := HLM.out; omega) (by omega) (HC.out.kept0 HK4.out)
  rw [HMr.out, HVr.out] at hs
  (with_reducible refine hs.mono ?_)
  clear hs
  rintro en w5 ⟨rfl, hk⟩
  have HK5 := Lib.hid (HK4.out.trans' hk)
  have HR5 := Lib.hid (HR4.out.kept0 hk)
  have HN5 := Lib.hid (HN4.out.kept0 hk)
  clear hk
  go_upto_region 6 with (fail)
  have HK6 := Lib.hid (HK5.out.alloc (.cells #[.int .u8 (r0.toNat : Int), .int .u8 (r1.toNat : Int), .int .u8 (r2.toNat : Int), .int .u8 (r3.toNat : Int), .int .u8 (r4.toNat : Int), .int .u8 (r5.toNat : Int), .int .u8 (r6.toNat : Int), .int .u8 (r7.toNat : Int), .int .u8 (r8.toNat : Int), .int .u8 (r9.toNat : Int), .int .u8 (r10.toNat : Int), .int .u8 (r11.toNat : Int), .int .u8 (r12.toNat : Int), .int .u8 (r13.toNat : Int), .int .u8 (r14.toNat : Int), .int .u8 (r15.toNat : Int)] 25))
  have HR6 := Lib.hid (HR5.out.alloc (.cells #[.int .u8 (r0.toNat : Int), .int .u8 (r1.toNat : Int), .int .u8 (r2.toNat : Int), .int .u8 (r3.toNat : Int), .int .u8 (r4.toNat : Int), .int .u8 (r5.toNat : Int), .int .u8 (r6.toNat : Int), .int .u8 (r7.toNat : Int), .int .u8 (r8.toNat : Int), .int .u8 (r9.toNat : Int), .int .u8 (r10.toNat : Int), .int .u8 (r11.toNat : Int), .int .u8 (r12.toNat : Int), .int .u8 (r13.toNat : Int), .int .u8 (r14.toNat : Int), .int .u8 (r15.toNat : Int)] 25))
  have HO6 := Lib.hid (HN5.out.alloc (.cells #[.int .u8 (r0.toNat : Int), .int .u8 (r1.toNat : Int), .int .u8 (r2.toNat : Int), .int .u8 (r3.toNat : Int), .int .u8 (r4.toNat : Int), .int .u8 (r5.toNat : Int), .int .u8 (r6.toNat : Int), .int .u8 (r7.toNat : Int), .int .u8 (r8.toNat : Int), .int .u8 (r9.toNat : Int), .int .u8 (r10.toNat : Int), .int .u8 (r11.toNat : Int), .int .u8 (r12.toNat : Int), .int .u8 (r13.toNat : Int), .int .u8 (r14.toNat : Int), .int .u8 (r15.toNat : Int)] 25))
  have HN6 := Lib.hid (Blk.new w5 25 #[.int .u8 (r0.toNat : Int), .int .u8 (r1.toNat : Int), .int .u8 (r2.toNat : Int), .int .u8 (r3.toNat : Int), .int .u8 (r4.toNat : Int), .int .u8 (r5.toNat : Int), .int .u8 (r6.toNat : Int), .int .u8 (r7.toNat : Int), .int .u8 (r8.toNat : Int), .int .u8 (r9.toNat : Int), .int .u8 (r10.toNat : Int), .int .u8 (r11.toNat : Int), .int .u8 (r12.toNat : Int), .int .u8 (r13.toNat : Int), .int .u8 (r14.toNat : Int), .int .u8 (r15.toNat : Int)])
  generalize w5.alloc (.cells #[.int .u8 (r0.toNat : Int), .int .u8 (r1.toNat : Int), .int .u8 (r2.toNat : Int), .int .u8 (r3.toNat : Int), .int .u8 (r4.toNat : Int), .int .u8 (r5.toNat : Int), .int .u8 (r6.toNat : Int), .int .u8 (r7.toNat : Int), .int .u8 (r8.toNat : Int), .int .u8 (r9.toNat : Int), .int .u8 (r10.toNat : Int), .int .u8 (r11.toNat : Int), .int .u8 (r12.toNat : Int), .int .u8 (r13.toNat : Int), .int .u8 (r14.toNat : Int), .int .u8 (r15.toNat : Int)] 25) = W6 at *
  obtain ⟨g6, hg⟩ : ∃ g, w5.heap.size = g := ⟨_, rfl⟩
  rw [hg] at HN6 ⊢
  clear hg
  have hrl := Reads.bytes W6 5 [97, 98, 99] #[.int .u8 97, .int .u8 98, .int .u8 99] rfl (3, 4)
  have HKa := HK6.out.alloc (.cells #[.int .u8 97, .int .u8 98, .int .u8 99] 5 (3, 4))
  have HR6a := HR6.out.alloc (.cells #[.int .u8 97, .int .u8 98, .int .u8 99] 5 (3, 4))
  have HO6a := HO6.out.alloc (.cells #[.int .u8 97, .int .u8 98, .int .u8 99] 5 (3, 4))
  have HN6a := HN6.out.alloc (.cells #[.int .u8 97, .int .u8 98, .int .u8 99] 5 (3, 4))
  have hs := sum_any _ _ _ 3 3 [97, 98, 99] hrl (by omega) (by omega) (by omega) (HC.out.kept0 HKa)
  rw [HMs.out, HVs.out] at hs
  have HKa' := Lib.hid HKa
  have HR6a' := Lib.hid HR6a
  have HO6a' := Lib.hid HO6a
  have HN6a' := Lib.hid HN6a
  have HS := Lib.hid hs
  clear hs HKa hrl HR6a HO6a HN6a
  go_wp2_with fail
  (with_reducible refine HS.out.mono ?_)
  clear HS
  rintro en w7 ⟨rfl, hk⟩
  have HKb := Lib.hid (HKa'.out.trans' hk)
  have HR6b := Lib.hid (HR6a'.out.kept0 hk)
  have HO6b := Lib.hid (HO6a'.out.kept0 hk)
  have HN6b := Lib.hid (HN6a'.out.kept0 hk)
  clear hk HKa' HR6a' HO6a' HN6a'
  go_upto_region 7 with (fail)
  have HK7 := Lib.hid (HKb.out.alloc (.cells #[.int .u8 (s0.toNat : Int), .int .u8 (s1.toNat : Int), .int .u8 (s2.toNat : Int), .int .u8 (s3.toNat : Int), .int .u8 (s4.toNat : Int), .int .u8 (s5.toNat : Int), .int .u8 (s6.toNat : Int), .int .u8 (s7.toNat : Int), .int .u8 (s8.toNat : Int), .int .u8 (s9.toNat : Int), .int .u8 (s10.toNat : Int), .int .u8 (s11.toNat : Int), .int .u8 (s12.toNat : Int), .int .u8 (s13.toNat : Int), .int .u8 (s14.toNat : Int), .int .u8 (s15.toNat : Int)] 25))
  have HR7 := Lib.hid (HR6b.out.alloc (.cells #[.int .u8 (s0.toNat : Int), .int .u8 (s1.toNat : Int), .int .u8 (s2.toNat : Int), .int .u8 (s3.toNat : Int), .int .u8 (s4.toNat : Int), .int .u8 (s5.toNat : Int), .int .u8 (s6.toNat : Int), .int .u8 (s7.toNat : Int), .int .u8 (s8.toNat : Int), .int .u8 (s9.toNat : Int), .int .u8 (s10.toNat : Int), .int .u8 (s11.toNat : Int), .int .u8 (s12.toNat : Int), .int .u8 (s13.toNat : Int), .int .u8 (s14.toNat : Int), .int .u8 (s15.toNat : Int)] 25))
  have HO7 := Lib.hid (HO6b.out.alloc (.cells #[.int .u8 (s0.toNat : Int), .int .u8 (s1.toNat : Int), .int .u8 (s2.toNat : Int), .int .u8 (s3.toNat : Int), .int .u8 (s4.toNat : Int), .int .u8 (s5.toNat : Int), .int .u8 (s6.toNat : Int), .int .u8 (s7.toNat : Int), .int .u8 (s8.toNat : Int), .int .u8 (s9.toNat : Int), .int .u8 (s10.toNat : Int), .int .u8 (s11.toNat : Int), .int .u8 (s12.toNat : Int), .int .u8 (s13.toNat : Int), .int .u8 (s14.toNat : Int), .int .u8 (s15.toNat : Int)] 25))
  have HP7 := Lib.hid (HN6b.out.alloc (.cells #[.int .u8 (s0.toNat : Int), .int .u8 (s1.toNat : Int), .int .u8 (s2.toNat : Int), .int .u8 (s3.toNat : Int), .int .u8 (s4.toNat : Int), .int .u8 (s5.toNat : Int), .int .u8 (s6.toNat : Int), .int .u8 (s7.toNat : Int), .int .u8 (s8.toNat : Int), .int .u8 (s9.toNat : Int), .int .u8 (s10.toNat : Int), .int .u8 (s11.toNat : Int), .int .u8 (s12.toNat : Int), .int .u8 (s13.toNat : Int), .int .u8 (s14.toNat : Int), .int .u8 (s15.toNat : Int)] 25))
  have HN7 := Lib.hid (Blk.new w7 25 #[.int .u8 (s0.toNat : Int), .int .u8 (s1.toNat : Int), .int .u8 (s2.toNat : Int), .int .u8 (s3.toNat : Int), .int .u8 (s4.toNat : Int), .int .u8 (s5.toNat : Int), .int .u8 (s6.toNat : Int), .int .u8 (s7.toNat : Int), .int .u8 (s8.toNat : Int), .int .u8 (s9.toNat : Int), .int .u8 (s10.toNat : Int), .int .u8 (s11.toNat : Int), .int .u8 (s12.toNat : Int), .int .u8 (s13.toNat : Int), .int .u8 (s14.toNat : Int), .int .u8 (s15.toNat : Int)])
  generalize w7.alloc (.cells #[.int .u8 (s0.toNat : Int), .int .u8 (s1.toNat : Int), .int .u8 (s2.toNat : Int), .int .u8 (s3.toNat : Int), .int .u8 (s4.toNat : Int), .int .u8 (s5.toNat : Int), .int .u8 (s6.toNat : Int), .int .u8 (s7.toNat : Int), .int .u8 (s8.toNat : Int), .int .u8 (s9.toNat : Int), .int .u8 (s10.toNat : Int), .int .u8 (s11.toNat : Int), .int .u8 (s12.toNat : Int), .int .u8 (s13.toNat : Int), .int .u8 (s14.toNat : Int), .int .u8 (s15.toNat : Int)] 25) = W7 at *
  obtain ⟨g7, hg⟩ : ∃ g, w7.heap.size = g := ⟨_, rfl⟩
  rw [hg] at HN7 ⊢
  clear hg
  clear HKb HR6b HO6b HN6b
  have hrl := Reads.bytes W7 5 num80 #[.int .u8 49, .int .u8 50, .int .u8 51, .int .u8 52, .int .u8 53, .int .u8 54, .int .u8 55, .int .u8 56, .int .u8 57, .int .u8 48, .int .u8 49, .int .u8 50, .int .u8 51, .int .u8 52, .int .u8 53, .int .u8 54, .int .u8 55, .int .u8 56, .int .u8 57, .int .u8 48, .int .u8 49, .int .u8 50, .int .u8 51, .int .u8 52, .int .u8 53, .int .u8 54, .int .u8 55, .int .u8 56, .int .u8 57, .int .u8 48, .int .u8 49, .int .u8 50, .int .u8 51, .int .u8 52, .int .u8 53, .int .u8 54, .int .u8 55, .int .u8 56, .int .u8 57, .int .u8 48, .int .u8 49, .int .u8 50, .int .u8 51, .int .u8 52, .int .u8 53, .int .u8 54, .int .u8 55, .int .u8 56, .int .u8 57, .int .u8 48, .int .u8 49, .int .u8 50, .int .u8 51, .int .u8 52, .int .u8 53, .int .u8 54, .int .u8 55, .int .u8 56, .int .u8 57, .int .u8 48, .int .u8 49, .int .u8 50, .int .u8 51, .int .u8 52, .int .u8 53, .int .u8 54, .int .u8 55, .int .u8 56, .int .u8 57, .int .u8 48, .int .u8 49, .int .u8 50, .int .u8 51, .int .u8 52, .int .u8 53, .int .u8 54, .int .u8 55, .int .u8 56, .int .u8 57, .int .u8 48] rfl (80, 81)
  have HKa := HK7.out.alloc (.cells #[.int .u8 49, .int .u8 50, .int .u8 51, .int .u8 52, .int .u8 53, .int .u8 54, .int .u8 55, .int .u8 56, .int .u8 57, .int .u8 48, .int .u8 49, .int .u8 50, .int .u8 51, .int .u8 52, .int .u8 53, .int .u8 54, .int .u8 55, .int .u8 56, .int .u8 57, .int .u8 48, .int .u8 49, .int .u8 50, .int .u8 51, .int .u8 52, .int .u8 53, .int .u8 54, .int .u8 55, .int .u8 56, .int .u8 57, .int .u8 48, .int .u8 49, .int .u8 50, .int .u8 51, .int .u8 52, .int .u8 53, .int .u8 54, .int .u8 55, .int .u8 56, .int .u8 57, .int .u8 48, .int .u8 49, .int .u8 50, .int .u8 51, .int .u8 52, .int .u8 53, .int .u8 54, .int .u8 55, .int .u8 56, .int .u8 57, .int .u8 48, .int .u8 49, .int .u8 50, .int .u8 51, .int .u8 52, .int .u8 53, .int .u8 54, .int .u8 55, .int .u8 56, .int .u8 57, .int .u8 48, .int .u8 49, .int .u8 50, .int .u8 51, .int .u8 52, .int .u8 53, .int .u8 54, .int .u8 55, .int .u8 56, .int .u8 57, .int .u8 48, .int .u8 49, .int .u8 50, .int .u8 51, .int .u8 52, .int .u8 53, .int .u8 54, .int .u8 55, .int .u8 56, .int .u8 57, .int .u8 48] 5 (80, 81))
  have HR7a := HR7.out.alloc (.cells #[.int .u8 49, .int .u8 50, .int .u8 51, .int .u8 52, .int .u8 53, .int .u8 54, .int .u8 55, .int .u8 56, .int .u8 57, .int .u8 48, .int .u8 49, .int .u8 50, .int .u8 51, .int .u8 52, .int .u8 53, .int .u8 54, .int .u8 55, .int .u8 56, .int .u8 57, .int .u8 48, .int .u8 49, .int .u8 50, .int .u8 51, .int .u8 52, .int .u8 53, .int .u8 54, .int .u8 55, .int .u8 56, .int .u8 57, .int .u8 48, .int .u8 49, .int .u8 50, .int .u8 51, .int .u8 52, .int .u8 53, .int .u8 54, .int .u8 55, .int .u8 56, .int .u8 57, .int .u8 48, .int .u8 49, .int .u8 50, .int .u8 51, .int .u8 52, .int .u8 53, .int .u8 54, .int .u8 55, .int .u8 56, .int .u8 57, .int .u8 48, .int .u8 49, .int .u8 50, .int .u8 51, .int .u8 52, .int .u8 53, .int .u8 54, .int .u8 55, .int .u8 56, .int .u8 57, .int .u8 48, .int .u8 49, .int .u8 50, .int .u8 51, .int .u8 52, .int .u8 53, .int .u8 54, .int .u8 55, .int .u8 56, .int .u8 57, .int .u8 48, .int .u8 49, .int .u8 50, .int .u8 51, .int .u8 52, .int .u8 53, .int .u8 54, .int .u8 55, .int .u8 56, .int .u8 57, .int .u8 48] 5 (80, 81))
  have HO7a := HO7.out.alloc (.cells #[.int .u8 49, .int .u8 50, .int .u8 51, .int .u8 52, .int .u8 53, .int .u8 54, .int .u8 55, .int .u8 56, .int .u8 57, .int .u8 48, .int .u8 49, .int .u8 50, .int .u8 51, .int .u8 52, .int .u8 53, .int .u8 54, .int .u8 55, .int .u8 56, .int .u8 57, .int .u8 48, .int .u8 49, .int .u8 50, .int .u8 51, .int .u8 52, .int .u8 53, .int .u8 54, .int .u8 55, .int .u8 56, .int .u8 57, .int .u8 48, .int .u8 49, .int .u8 50, .int .u8 51, .int .u8 52, .int .u8 53, .int .u8 54, .int .u8 55, .int .u8 56, .int .u8 57, .int .u8 48, .int .u8 49, .int .u8 50, .int .u8 51, .int .u8 52, .int .u8 53, .int .u8 54, .int .u8 55, .int .u8 56, .int .u8 57, .int .u8 48, .int .u8 49, .int .u8 50, .int .u8 51, .int .u8 52, .int .u8 53, .int .u8 54, .int .u8 55, .int .u8 56, .int .u8 57, .int .u8 48, .int .u8 49, .int .u8 50, .int .u8 51, .int .u8 52, .int .u8 53, .int .u8 54, .int .u8 55, .int .u8 56, .int .u8 57, .int .u8 48, .int .u8 49, .int .u8 50, .int .u8 51, .int .u8 52, .int .u8 53, .int .u8 54, .int .u8 55, .int .u8 56, .int .u8 57, .int .u8 48] 5 (80, 81))
  have HP7a := HP7.out.alloc (.cells #[.int .u8 49, .int .u8 50, .int .u8 51, .int .u8 52, .int .u8 53, .int .u8 54, .int .u8 55, .int .u8 56, .int .u8 57, .int .u8 48, .int .u8 49, .int .u8 50, .int .u8 51, .int .u8 52, .int .u8 53, .int .u8 54, .int .u8 55, .int .u8 56, .int .u8 57, .int .u8 48, .int .u8 49, .int .u8 50, .int .u8 51, .int .u8 52, .int .u8 53, .int .u8 54, .int .u8 55, .int .u8 56, .int .u8 57, .int .u8 48, .int .u8 49, .int .u8 50, .int .u8 51, .int .u8 52, .int .u8 53, .int .u8 54, .int .u8 55, .int .u8 56, .int .u8 57, .int .u8 48, .int .u8 49, .int .u8 50, .int .u8 51, .int .u8 52, .int .u8 53, .int .u8 54, .int .u8 55, .int .u8 56, .int .u8 57, .int .u8 48, .int .u8 49, .int .u8 50, .int .u8 51, .int .u8 52, .int .u8 53, .int .u8 54, .int .u8 55, .int .u8 56, .int .u8 57, .int .u8 48, .int .u8 49, .int .u8 50, .int .u8 51, .int .u8 52, .int .u8 53, .int .u8 54, .int .u8 55, .int .u8 56, .int .u8 57, .int .u8 48, .int .u8 49, .int .u8 50, .int .u8 51, .int .u8 52, .int .u8 53, .int .u8 54, .int .u8 55, .int .u8 56, .int .u8 57, .int .u8 48] 5 (80, 81))
  have HN7a := HN7.out.alloc (.cells #[.int .u8 49, .int .u8 50, .int .u8 51, .int .u8 52, .int .u8 53, .int .u8 54, .int .u8 55, .int .u8 56, .int .u8 57, .int .u8 48, .int .u8 49, .int .u8 50, .int .u8 51, .int .u8 52, .int .u8 53, .int .u8 54, .int .u8 55, .int .u8 56, .int .u8 57, .int .u8 48, .int .u8 49, .int .u8 50, .int .u8 51, .int .u8 52, .int .u8 53, .int .u8 54, .int .u8 55, .int .u8 56, .int .u8 57, .int .u8 48, .int .u8 49, .int .u8 50, .int .u8 51, .int .u8 52, .int .u8 53, .int .u8 54, .int .u8 55, .int .u8 56, .int .u8 57, .int .u8 48, .int .u8 49, .int .u8 50, .int .u8 51, .int .u8 52, .int .u8 53, .int .u8 54, .int .u8 55, .int .u8 56, .int .u8 57, .int .u8 48, .int .u8 49, .int .u8 50, .int .u8 51, .int .u8 52, .int .u8 53, .int .u8 54, .int .u8 55, .int .u8 56, .int .u8 57, .int .u8 48, .int .u8 49, .int .u8 50, .int .u8 51, .int .u8 52, .int .u8 53, .int .u8 54, .int .u8 55, .int .u8 56, .int .u8 57, .int .u8 48, .int .u8 49, .int .u8 50, .int .u8 51, .int .u8 52, .int .u8 53, .int .u8 54, .int .u8 55, .int .u8 56, .int .u8 57, .int .u8 48] 5 (80, 81))
  have hs := sum_any _ _ _ 80 80 num80 hrl (by omega) (by omega) (by omega) (HC.out.kept0 HKa)
  rw [HMq.out, HVq.out] at hs
  have HKa' := Lib.hid HKa
  have HR7a' := Lib.hid HR7a
  have HO7a' := Lib.hid HO7a
  have HP7a' := Lib.hid HP7a
  have HN7a' := Lib.hid HN7a
  have HS := Lib.hid hs
  clear hs HKa hrl HR7a HO7a HP7a HN7a
  go_wp2_with fail
  (with_reducible refine HS.out.mono ?_)
  clear HS
  rintro en w8 ⟨rfl, hk⟩
  have HKb := Lib.hid (HKa'.out.trans' hk)
  have HR7b := Lib.hid (HR7a'.out.kept0 hk)
  have HO7b := Lib.hid (HO7a'.out.kept0 hk)
  have HP7b := Lib.hid (HP7a'.out.kept0 hk)
  have HN7b := Lib.hid (HN7a'.out.kept0 hk)
  clear hk HKa' HR7a' HO7a' HP7a' HN7a'
  go_upto_region 8 with (fail)
  have HK8 := Lib.hid (HKb.out.alloc (.cells #[.int .u8 (q0.toNat : Int), .int .u8 (q1.toNat : Int), .int .u8 (q2.toNat : Int), .int .u8 (q3.toNat : Int), .int .u8 (q4.toNat : Int), .int .u8 (q5.toNat : Int), .int .u8 (q6.toNat : Int), .int .u8 (q7.toNat : Int), .int .u8 (q8.toNat : Int), .int .u8 (q9.toNat : Int), .int .u8 (q10.toNat : Int), .int .u8 (q11.toNat : Int), .int .u8 (q12.toNat : Int), .int .u8 (q13.toNat : Int), .int .u8 (q14.toNat : Int), .int .u8 (q15.toNat : Int)] 25))
  have HR8 := Lib.hid (HR7b.out.alloc (.cells #[.int .u8 (q0.toNat : Int), .int .u8 (q1.toNat : Int), .int .u8 (q2.toNat : Int), .int .u8 (q3.toNat : Int), .int .u8 (q4.toNat : Int), .int .u8 (q5.toNat : Int), .int .u8 (q6.toNat : Int), .int .u8 (q7.toNat : Int), .int .u8 (q8.toNat : Int), .int .u8 (q9.toNat : Int), .int .u8 (q10.toNat : Int), .int .u8 (q11.toNat : Int), .int .u8 (q12.toNat : Int), .int .u8 (q13.toNat : Int), .int .u8 (q14.toNat : Int), .int .u8 (q15.toNat : Int)] 25))
  have HO8 := Lib.hid (HO7b.out.alloc (.cells #[.int .u8 (q0.toNat : Int), .int .u8 (q1.toNat : Int), .int .u8 (q2.toNat : Int), .int .u8 (q3.toNat : Int), .int .u8 (q4.toNat : Int), .int .u8 (q5.toNat : Int), .int .u8 (q6.toNat : Int), .int .u8 (q7.toNat : Int), .int .u8 (q8.toNat : Int), .int .u8 (q9.toNat : Int), .int .u8 (q10.toNat : Int), .int .u8 (q11.toNat : Int), .int .u8 (q12.toNat : Int), .int .u8 (q13.toNat : Int), .int .u8 (q14.toNat : Int), .int .u8 (q15.toNat : Int)] 25))
  have HP8 := Lib.hid (HP7b.out.alloc (.cells #[.int .u8 (q0.toNat : Int), .int .u8 (q1.toNat : Int), .int .u8 (q2.toNat : Int), .int .u8 (q3.toNat : Int), .int .u8 (q4.toNat : Int), .int .u8 (q5.toNat : Int), .int .u8 (q6.toNat : Int), .int .u8 (q7.toNat : Int), .int .u8 (q8.toNat : Int), .int .u8 (q9.toNat : Int), .int .u8 (q10.toNat : Int), .int .u8 (q11.toNat : Int), .int .u8 (q12.toNat : Int), .int .u8 (q13.toNat : Int), .int .u8 (q14.toNat : Int), .int .u8 (q15.toNat : Int)] 25))
  have HQ8 := Lib.hid (HN7b.out.alloc (.cells #[.int .u8 (q0.toNat : Int), .int .u8 (q1.toNat : Int), .int .u8 (q2.toNat : Int), .int .u8 (q3.toNat : Int), .int .u8 (q4.toNat : Int), .int .u8 (q5.toNat : Int), .int .u8 (q6.toNat : Int), .int .u8 (q7.toNat : Int), .int .u8 (q8.toNat : Int), .int .u8 (q9.toNat : Int), .int .u8 (q10.toNat : Int), .int .u8 (q11.toNat : Int), .int .u8 (q12.toNat : Int), .int .u8 (q13.toNat : Int), .int .u8 (q14.toNat : Int), .int .u8 (q15.toNat : Int)] 25))
  have HN8 := Lib.hid (Blk.new w8 25 #[.int .u8 (q0.toNat : Int), .int .u8 (q1.toNat : Int), .int .u8 (q2.toNat : Int), .int .u8 (q3.toNat : Int), .int .u8 (q4.toNat : Int), .int .u8 (q5.toNat : Int), .int .u8 (q6.toNat : Int), .int .u8 (q7.toNat : Int), .int .u8 (q8.toNat : Int), .int .u8 (q9.toNat : Int), .int .u8 (q10.toNat : Int), .int .u8 (q11.toNat : Int), .int .u8 (q12.toNat : Int), .int .u8 (q13.toNat : Int), .int .u8 (q14.toNat : Int), .int .u8 (q15.toNat : Int)])
  generalize w8.alloc (.cells #[.int .u8 (q0.toNat : Int), .int .u8 (q1.toNat : Int), .int .u8 (q2.toNat : Int), .int .u8 (q3.toNat : Int), .int .u8 (q4.toNat : Int), .int .u8 (q5.toNat : Int), .int .u8 (q6.toNat : Int), .int .u8 (q7.toNat : Int), .int .u8 (q8.toNat : Int), .int .u8 (q9.toNat : Int), .int .u8 (q10.toNat : Int), .int .u8 (q11.toNat : Int), .int .u8 (q12.toNat : Int), .int .u8 (q13.toNat : Int), .int .u8 (q14.toNat : Int), .int .u8 (q15.toNat : Int)] 25) = W8 at *
  obtain ⟨g8, hg⟩ : ∃ g, w8.heap.size = g := ⟨_, rfl⟩
  rw [hg] at HN8 ⊢
  clear hg
  clear HKb HR7b HO7b HP7b HN7b
  generalize hCr : (#[.int .u8 (r0.toNat : Int), .int .u8 (r1.toNat : Int), .int .u8 (r2.toNat : Int), .int .u8 (r3.toNat : Int), .int .u8 (r4.toNat : Int), .int .u8 (r5.toNat : Int), .int .u8 (r6.toNat : Int), .int .u8 (r7.toNat : Int), .int .u8 (r8.toNat : Int), .int .u8 (r9.toNat : Int), .int .u8 (r10.toNat : Int), .int .u8 (r11.toNat : Int), .int .u8 (r12.toNat : Int), .int .u8 (r13.toNat : Int), .int .u8 (r14.toNat : Int), .int .u8 (r15.toNat : Int)] : Array Value) = Cr at *
  have hZr : Cr.size = 16 := by rw [← hCr]; rfl
  have hDr : Cr = (b8s Mr).toArray := by rw [← hCr, HDr.out]; rfl
  have HZr := Lib.hid hDr
  clear hCr hDr
  generalize hCs : (#[.int .u8 (s0.toNat : Int), .int .u8 (s1.toNat : Int), .int .u8 (s2.toNat : Int), .int .u8 (s3.toNat : Int), .int .u8 (s4.toNat : Int), .int .u8 (s5.toNat : Int), .int .u8 (s6.toNat : Int), .int .u8 (s7.toNat : Int), .int .u8 (s8.toNat : Int), .int .u8 (s9.toNat : Int), .int .u8 (s10.toNat : Int), .int .u8 (s11.toNat : Int), .int .u8 (s12.toNat : Int), .int .u8 (s13.toNat : Int), .int .u8 (s14.toNat : Int), .int .u8 (s15.toNat : Int)] : Array Value) = Cs at *
  have hZs : Cs.size = 16 := by rw [← hCs]; rfl
  have hDs : Cs = (b8s Ms).toArray := by rw [← hCs, HDs.out]; rfl
  have HZs := Lib.hid hDs
  clear hCs hDs
  generalize hCq : (#[.int .u8 (q0.toNat : Int), .int .u8 (q1.toNat : Int), .int .u8 (q2.toNat : Int), .int .u8 (q3.toNat : Int), .int .u8 (q4.toNat : Int), .int .u8 (q5.toNat : Int), .int .u8 (q6.toNat : Int), .int .u8 (q7.toNat : Int), .int .u8 (q8.toNat : Int), .int .u8 (q9.toNat : Int), .int .u8 (q10.toNat : Int), .int .u8 (q11.toNat : Int), .int .u8 (q12.toNat : Int), .int .u8 (q13.toNat : Int), .int .u8 (q14.toNat : Int), .int .u8 (q15.toNat : Int)] : Array Value) = Cq at *
  have hZq : Cq.size = 16 := by rw [← hCq]; rfl
  have hDq : Cq = (b8s Mq).toArray := by rw [← hCq, HDq.out]; rfl
  have HZq := Lib.hid hDq
  clear hCq hDq
  have hst := (HR8.out).string 22 5 9 Tryd.underlying22 Tryd.underlying5 Tryd.underlying9 c
  have HEQ' := HEQ.out W8
  have hi16 : (Tryd.prog.info? 25).map (·.size) = some Cr.size := by rw [hZr]; kernel_rfl
  go_wp2_with (first | (refine wpList_loadA (by simp [Region.wanted, yielded, Act.put]) 25 (.tmp 5) rfl g3 rfl 25 Cr (0, 0) _ HO8.out Tryd.underlying25 rfl hi16 ?_) | (refine wpList_loadA (by simp [Region.wanted, yielded, Act.put]) 25 (.tmp 6) rfl g6 rfl 25 Cr (0, 0) _ HP8.out Tryd.underlying25 rfl hi16 ?_))
  clear hst HEQ'
  refine (hex_calls W8 _ _ 16 16 Ms (blkB_reads (t := 25) (g := g7) (by rw [← HZs.out]; exact HQ8.out) 16 HLs.out) (by omega)).mono ?_
  rw [HXs.out]
  rintro en w9 ⟨rfl, hk⟩
  have HK9 := Lib.hid (HK8.out.trans' hk)
  have HN9 := Lib.hid (HN8.out.kept0 hk)
  clear hk
  go_wp2_with fail
  refine (hex_calls w9 _ _ 16 16 Mq (blkB_reads (t := 25) (g := g8) (by rw [← HZq.out]; exact HN9.out) 16 HLq.out) (by omega)).mono ?_
  rw [HXq.out]
  rintro en w10 ⟨rfl, hk⟩
  have HK10 := Lib.hid (HK9.out.trans' hk)
  clear hk
  go_wp2_with fail
  go_ret
  exact ⟨rfl, HK10.out.below⟩
theorem digestKnown_walk (W : World) (a0 : Option Addr) (len0 cap0 : Nat) (z0 : List Int) (w0 : IsRow .u8 W a0 len0 cap0 z0) (_y0 : len0 * 1 ≤ 140737488351232) (hL : laidMetH Tryd.prog Rows.digestKnownRow.laid W) (_hsh : W.ShapedOpen Tryd.prog) :
    Calls Tryd.prog 3 #[.slice a0 len0 cap0] W fun en w' => en = .returned (.bool true) ∧ Below W.heap.size W w' :=
  known_law W a0 len0 cap0 _ w0.bytes_.2.1 w0.bytes_.2.2 w0.cap_le (SinC.of_laid hL)
end Go.Proofs.YtlmomdpkolnbcaaDoor
