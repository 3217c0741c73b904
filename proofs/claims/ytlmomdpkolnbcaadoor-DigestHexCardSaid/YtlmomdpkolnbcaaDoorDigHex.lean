/- DigestHex' walk. (Printed by gen_dighex.py.) -/
import Derived.Test.YtlmomdpkolnbcaaDoorDigAll
set_option linter.unusedVariables false
set_option linter.unusedSimpArgs false
namespace Go.Proofs.YtlmomdpkolnbcaaDoor
open Go.RowKit Go.Shelf Go.Lib

theorem strB_bneF {x y : List UInt8} (h : x ≠ y) : (strB x == strB y) = false := by rw [strB_beq]; exact decide_eq_false h
theorem bne_of_T {a b : ByteArray} (h : (a == b) = true) : (a != b) = false := by rw [bne, h]; rfl
theorem bne_of_F {a b : ByteArray} (h : (a == b) = false) : (a != b) = true := by rw [bne, h]; rfl
theorem hexD_iff (c : UInt8) (x : Nat) (hx : c.toNat = x) : (hexD c).isSome = decide ((48 ≤ x ∧ x ≤ 57) ∨ (97 ≤ x ∧ x ≤ 102)) := by
  unfold hexD
  rw [hx]
  by_cases h1 : 48 ≤ x ∧ x ≤ 57
  · rw [if_pos h1]
    simp [h1]
  · rw [if_neg h1]
    by_cases h2 : 97 ≤ x ∧ x ≤ 102
    · rw [if_pos h2]
      simp [h2]
    · rw [if_neg h2]
      simp [h1, h2]
set_option maxHeartbeats 8000000 in
set_option maxRecDepth 100000 in
theorem hex_law (w : World) (A : Option Addr) (n c : Nat) (l0 : List UInt8) (hR : Reads w (fun k => k < w.heap.size) A n (b8s l0)) (hnc : n ≤ c) (hcb : c ≤ 9223372036854775807) (a x : Nat) (ha : a ≤ 65535) (hx : x < 256) (hC : SinC w) :
    Calls Tryd.prog 6 #[.slice A n c, .int .u16 (a : Int), .int .u8 (x : Int)] w fun en w' => en = .returned (.bool true) ∧ Below w.heap.size w w' := by
  obtain ⟨l, hl⟩ : ∃ l, l0.take 600 = l := ⟨_, rfl⟩
  have hhl := hexL_len l
  have huh := unH_hexL l
  have huo := unH_odd l 48
  have hturn := unH_turn l
  have hoth := unH_others l
  obtain ⟨h, hh⟩ : ∃ h, hexL l = h := ⟨_, rfl⟩
  rw [hh] at hhl huh huo hturn
  simp only [hh] at hoth
  obtain ⟨cB, hcB⟩ : ∃ c : UInt8, c.toNat = x := ⟨UInt8.ofNat x, by simp; omega⟩
  have HL := Lib.hid hl
  have HH := Lib.hid hh
  have HHL := Lib.hid hhl
  have HUH := Lib.hid huh
  have HUO := Lib.hid huo
  have HTURN := Lib.hid hturn
  have HOTH := Lib.hid hoth
  have HCB := Lib.hid hcB
  have HR := Lib.hid hR
  have HC := Lib.hid hC
  clear hl hh hhl huh huo hturn hoth hcB hR hC
  go_enter Tryd.func6, Tryd.ntmps6
  go_wp2_with fail
  refine (shown_calls w HC.out).mono ?_
  rintro en w1 ⟨rfl, hk⟩
  have HK1 := Lib.hid hk
  clear hk
  go_wp2_with fail
  refine (short_calls w1 _ A n c l0 (HR.out.kept0 HK1.out) hnc).mono ?_
  rintro en w1' ⟨m, rfl, rfl, hmc, hm6, hrd⟩
  rw [HL.out] at hrd
  have HRD := Lib.hid hrd
  have hml : l.length = m := by have := hrd.1; rwa [b8s_length] at this
  have HML := Lib.hid hml
  have hhm : h.length = 2 * m := by rw [HHL.out, hml]
  have HHM := Lib.hid hhm
  have hhb : h.length ≤ 1200 := by omega
  clear hrd hml hhm
  go_wp2_with fail
  refine (hex_calls w1' _ A m c l HRD.out (by omega)).mono ?_
  rintro en w2 ⟨rfl, hk⟩
  rw [HH.out]
  have HK2 := Lib.hid (HK1.out.trans' hk)
  have HRD2 := Lib.hid (HRD.out.kept0 hk)
  clear hk
  go_wp2_with fail
  refine (unhexAny_calls w2 h (by omega)).mono ?_
  rintro en w3 ⟨XA, xn, xc, rfl, hk, hxc, hxm, hxr⟩
  rw [HUH.out] at hxr ⊢
  simp only [Option.isSome_some, Option.getD_some] at hxr ⊢
  have HXD := Lib.hid hxr
  have HK3 := Lib.hid (HK2.out.trans' hk)
  have HRD3 := Lib.hid (HRD2.out.kept0 hk)
  have e48 : strB h ++ (⟨#[48]⟩ : ByteArray) = strB (h ++ [48]) := strB_app h [48]
  clear hk hxr
  go_wp2_with fail
  refine (unhexAny_calls w3 (h ++ [48]) (by rw [List.length_append]; simp only [List.length_cons, List.length_nil]; omega)).mono ?_
  rintro en w4 ⟨YA, yn, yc, rfl, hk, _, _, _⟩
  rw [HUO.out]
  simp only [Option.isSome_none]
  have HK4 := Lib.hid (HK3.out.trans' hk)
  have HRD4 := Lib.hid (HRD3.out.kept0 hk)
  have HXD4 := Lib.hid (HXD.out.kept0 hk)
  clear hk e48
  have hcx := HXD4.out.string (P := Tryd.prog) 22 5 9 Tryd.underlying22 Tryd.underlying5 Tryd.underlying9 xc
  have hcb' := HRD4.out.string (P := Tryd.prog) 22 5 9 Tryd.underlying22 Tryd.underlying5 Tryd.underlying9 c
  have hb1 := strB_beqI l
  have hb2 := bne_of_T hb1
  have hl1 : ((h.length : Int) == 2 * (m : Int)) = true := by rw [beq_iff_eq]; have := HHM.out; omega
  have hl2 : ((h.length : Int) != 2 * (m : Int)) = false := by rw [bne, hl1]; rfl
  by_cases hm0 : m = 0
  · have hz : ((h.length : Int) == 0) = true := by rw [beq_iff_eq]; have := HHM.out; omega
    clear hm0
    go_wp2_with fail
    go_ret
    exact ⟨rfl, HK4.out.below⟩
  · have hz : ((h.length : Int) == 0) = false := by rw [beq_eq_false_iff_ne]; have := HHM.out; omega
    have hhpos : 0 < h.length := by have := HHM.out; omega
    have hlne : l ≠ [] := fun e => by have := HML.out; rw [e] at this; simp at this; omega
    obtain ⟨i, hi⟩ : ∃ i, a % h.length = i := ⟨_, rfl⟩
    have hil : i < h.length := by rw [← hi]; exact Nat.mod_lt _ hhpos
    have him : (a : Int) % (h.length : Int) = (i : Int) := by rw [← hi]; rfl
    have hT := HTURN.out i hil cB
    have hTO := HOTH.out (h.take i ++ (cB :: h.drop (i + 1)))
    have f1 : (strB h).extract 0 i = strB (h.take i) := by rw [strB_cut]; simp
    have f2 : (strB h).extract (i + 1) h.length = strB (h.drop (i + 1)) := by
      rw [strB_cut]
      congr 1
      exact List.take_of_length_le (by simp)
    have f3 := strB_app (h.take i) [cB]
    have f4 := strB_app (h.take i ++ [cB]) (h.drop (i + 1))
    rw [List.append_assoc, List.singleton_append] at f4
    have z1 : (h.take i).length = i := by rw [List.length_take]; omega
    have z2 : (h.drop (i + 1)).length = h.length - (i + 1) := List.length_drop
    have z3 : (h.take i ++ [cB]).length = i + 1 := by rw [List.length_append, z1]; rfl
    have z4 : (h.take i ++ (cB :: h.drop (i + 1))).length ≤ 1200 := by rw [List.length_append, List.length_cons, z1, z2]; omega
    obtain ⟨T1, hT1⟩ : ∃ t, h.take i = t := ⟨_, rfl⟩
    obtain ⟨T2, hT2⟩ : ∃ t, T1 ++ [cB] = t := ⟨_, rfl⟩
    obtain ⟨T3, hT3⟩ : ∃ t, h.drop (i + 1) = t := ⟨_, rfl⟩
    obtain ⟨T, hTe⟩ : ∃ t, T1 ++ (cB :: T3) = t := ⟨_, rfl⟩
    rw [hT1] at hT hTO f1 f3 f4 z1 z3 z4
    rw [hT2] at f3 f4 z3
    rw [hT3] at hT hTO f2 f4 z2 z4
    rw [hTe] at hT hTO f4 z4
    have z1' : T1.length ≤ 1200 := by omega
    have z2' : T2.length ≤ 1201 := by omega
    have z3' : T3.length ≤ 1200 := by omega
    have kb : ∀ W : World, (convert 22 9 (.slice (some ⟨W.heap.size, 0, none⟩) 1 1)).run Tryd.prog (W.alloc (.cells #[.int .u8 (x : Int)] 5)) = .ok (.string (strB [cB])) (W.alloc (.cells #[.int .u8 (x : Int)] 5)) := fun W =>
      (Reads.bytes W 5 [cB] #[.int .u8 (x : Int)] (by simp [b8s, B8, HCB.out]) (0, 0)).string 22 5 9 Tryd.underlying22 Tryd.underlying5 Tryd.underlying9 1
    have kb2 : (convert 22 9 (.slice (some ⟨w4.heap.size, 0, none⟩) 1 1)).run Tryd.prog (w4.alloc (.cells #[.int .u8 (x : Int)] 5)).drew = .ok (.string (strB [cB])) (w4.alloc (.cells #[.int .u8 (x : Int)] 5)).drew := (Reads.bytes w4 5 [cB] #[.int .u8 (x : Int)] (by simp [b8s, B8, HCB.out]) (0, 0)).drew.string 22 5 9 Tryd.underlying22 Tryd.underlying5 Tryd.underlying9 1
    have q1 : IntKind.i64.wrap ((i : Int) + 1) = (i : Int) + 1 := IntWalk.i64_in _ (by omega)
    have q2 : ((i : Int) + 1).toNat = i + 1 := by omega
    have q3 : (0 : Int) ≤ (i : Int) + 1 := by omega
    have q4 : (i : Int) + 1 ≤ (h.length : Int) := by omega
    have q5 : (i : Int) ≤ (h.length : Int) := by omega
    have HT := Lib.hid hT
    have HTO := Lib.hid hTO
    have HLNE := Lib.hid hlne
    have HI := Lib.hid hi
    have HZ4 := Lib.hid z4
    clear hT hTO hlne hi z1 z2 z3 z4 hT1 hT2 hT3 hTe hm0 hhpos
    go_wp2_with fail
    go_region
    have HK5 := Lib.hid ((HK4.out.alloc (.cells #[.int .u8 (x : Int)] 5)).drew)
    have HRD5 := Lib.hid ((HRD4.out.alloc (.cells #[.int .u8 (x : Int)] 5)).drew)
    clear kb kb2 q1 q2 q3 q4 q5 f1 f2 f3 f4 hcx hcb' hb1 hb2 hl1 hl2 him
    generalize (w4.alloc (.cells #[.int .u8 (x : Int)] 5)).drew = W5 at *
    go_wp2_with fail
    refine (unhexAny_calls W5 T (by have := HZ4.out; omega)).mono ?_
    rintro en w6 ⟨ZA, zn, zc, rfl, hk, hzc, hzm, hzr⟩
    have hcy := hzr.string (P := Tryd.prog) 22 5 9 Tryd.underlying22 Tryd.underlying5 Tryd.underlying9 zc
    have hcb' := (HRD5.out.kept0 hk).string (P := Tryd.prog) 22 5 9 Tryd.underlying22 Tryd.underlying5 Tryd.underlying9 c
    have HK6 := Lib.hid (HK5.out.trans' hk)
    rw [HT.out, hexD_iff cB x HCB.out]
    obtain ⟨Y, hY⟩ : ∃ Y, (unH T).getD [] = Y := ⟨_, rfl⟩
    have hto := HTO.out
    rw [hY] at hcy hto
    clear hk hzr hY hm6 hmc
    by_cases hth : T = h
    · have g1 : (T == h) = true := by rw [hth, beq_iff_eq]
      clear hto hcy hcb' hth
      rcases (show (¬ 48 ≤ x) ∨ (48 ≤ x ∧ x ≤ 57) ∨ (57 < x ∧ ¬ 97 ≤ x) ∨ (97 ≤ x ∧ x ≤ 102) ∨ (102 < x) by omega) with hw | hw | hw | hw | hw
      · rw [show decide ((48 ≤ x ∧ x ≤ 57) ∨ (97 ≤ x ∧ x ≤ 102)) = false by simp; omega]
        have t1 : ¬ (48 : Int) ≤ (x : Int) := by omega
        have t1' := decide_eq_false t1
        have t2 : ¬ (97 : Int) ≤ (x : Int) := by omega
        have t2' := decide_eq_false t2
        clear hw
        go_wp2_with fail
        go_ret
        exact ⟨rfl, HK6.out.below⟩
      · rw [show decide ((48 ≤ x ∧ x ≤ 57) ∨ (97 ≤ x ∧ x ≤ 102)) = true by simp; omega]
        have t1 : (48 : Int) ≤ (x : Int) := by omega
        have t2 : (x : Int) ≤ 57 := by omega
        clear hw
        go_wp2_with fail
        go_ret
        exact ⟨rfl, HK6.out.below⟩
      · rw [show decide ((48 ≤ x ∧ x ≤ 57) ∨ (97 ≤ x ∧ x ≤ 102)) = false by simp; omega]
        have t1 : (48 : Int) ≤ (x : Int) := by omega
        have t2 : ¬ (x : Int) ≤ 57 := by omega
        have t2' := decide_eq_false t2
        have t3 : ¬ (97 : Int) ≤ (x : Int) := by omega
        have t3' := decide_eq_false t3
        clear hw
        go_wp2_with fail
        go_ret
        exact ⟨rfl, HK6.out.below⟩
      · rw [show decide ((48 ≤ x ∧ x ≤ 57) ∨ (97 ≤ x ∧ x ≤ 102)) = true by simp; omega]
        have t1 : (48 : Int) ≤ (x : Int) := by omega
        have t2 : ¬ (x : Int) ≤ 57 := by omega
        have t2' := decide_eq_false t2
        have t3 : (97 : Int) ≤ (x : Int) := by omega
        have t4 : (x : Int) ≤ 102 := by omega
        clear hw
        go_wp2_with fail
        go_ret
        exact ⟨rfl, HK6.out.below⟩
      · rw [show decide ((48 ≤ x ∧ x ≤ 57) ∨ (97 ≤ x ∧ x ≤ 102)) = false by simp; omega]
        have t1 : (48 : Int) ≤ (x : Int) := by omega
        have t2 : ¬ (x : Int) ≤ 57 := by omega
        have t2' := decide_eq_false t2
        have t3 : (97 : Int) ≤ (x : Int) := by omega
        have t4 : ¬ (x : Int) ≤ 102 := by omega
        have t4' := decide_eq_false t4
        clear hw
        go_wp2_with fail
        go_ret
        exact ⟨rfl, HK6.out.below⟩
    · have g1 : (T == h) = false := beq_eq_false_iff_ne.2 hth
      have g2 : (Y == l) = false := beq_eq_false_iff_ne.2 (hto hth HLNE.out)
      have g2' : (Y != l) = true := by rw [bne, g2]; rfl
      clear hto hth
      rcases (show (¬ 48 ≤ x) ∨ (48 ≤ x ∧ x ≤ 57) ∨ (57 < x ∧ ¬ 97 ≤ x) ∨ (97 ≤ x ∧ x ≤ 102) ∨ (102 < x) by omega) with hw | hw | hw | hw | hw
      · rw [show decide ((48 ≤ x ∧ x ≤ 57) ∨ (97 ≤ x ∧ x ≤ 102)) = false by simp; omega]
        have t1 : ¬ (48 : Int) ≤ (x : Int) := by omega
        have t1' := decide_eq_false t1
        have t2 : ¬ (97 : Int) ≤ (x : Int) := by omega
        have t2' := decide_eq_false t2
        clear hw
        go_wp2_with fail
        go_ret
        exact ⟨rfl, HK6.out.below⟩
      · rw [show decide ((48 ≤ x ∧ x ≤ 57) ∨ (97 ≤ x ∧ x ≤ 102)) = true by simp; omega]
        have t1 : (48 : Int) ≤ (x : Int) := by omega
        have t2 : (x : Int) ≤ 57 := by omega
        clear hw
        go_wp2_with fail
        go_ret
        exact ⟨rfl, HK6.out.below⟩
      · rw [show decide ((48 ≤ x ∧ x ≤ 57) ∨ (97 ≤ x ∧ x ≤ 102)) = false by simp; omega]
        have t1 : (48 : Int) ≤ (x : Int) := by omega
        have t2 : ¬ (x : Int) ≤ 57 := by omega
        have t2' := decide_eq_false t2
        have t3 : ¬ (97 : Int) ≤ (x : Int) := by omega
        have t3' := decide_eq_false t3
        clear hw
        go_wp2_with fail
        go_ret
        exact ⟨rfl, HK6.out.below⟩
      · rw [show decide ((48 ≤ x ∧ x ≤ 57) ∨ (97 ≤ x ∧ x ≤ 102)) = true by simp; omega]
        have t1 : (48 : Int) ≤ (x : Int) := by omega
        have t2 : ¬ (x : Int) ≤ 57 := by omega
        have t2' := decide_eq_false t2
        have t3 : (97 : Int) ≤ (x : Int) := by omega
        have t4 : (x : Int) ≤ 102 := by omega
        clear hw
        go_wp2_with fail
        go_ret
        exact ⟨rfl, HK6.out.below⟩
      · rw [show decide ((48 ≤ x ∧ x ≤ 57) ∨ (97 ≤ x ∧ x ≤ 102)) = false by simp; omega]
        have t1 : (48 : Int) ≤ (x : Int) := by omega
        have t2 : ¬ (x : Int) ≤ 57 := by omega
        have t2' := decide_eq_false t2
        have t3 : (97 : Int) ≤ (x : Int) := by omega
        have t4 : ¬ (x : Int) ≤ 102 := by omega
        have t4' := decide_eq_false t4
        clear hw
        go_wp2_with fail
        go_ret
        exact ⟨rfl, HK6.out.below⟩
theorem digestHex_walk (W : World) (a0 : Option Addr) (len0 cap0 : Nat) (z0 : List Int) (a1 a2 : Int) (w0 : IsRow .u8 W a0 len0 cap0 z0) (_y0 : len0 * 1 ≤ 140737488351232) (w1 : (Lit.int .u16 a1).wf = true) (w2 : (Lit.int .u8 a2).wf = true) (hL : laidMetH Tryd.prog Rows.digestHexRow.laid W) (_hsh : W.ShapedOpen Tryd.prog) :
    Calls Tryd.prog 6 #[.slice a0 len0 cap0, .int .u16 a1, .int .u8 a2] W fun en w' => en = .returned (.bool true) ∧ Below W.heap.size W w' := by
  have h1 : 0 ≤ a1 ∧ a1 ≤ 65535 := by simpa [Lit.wf, IntKind.min, IntKind.max, IntKind.signed, IntKind.bits] using w1
  have h2 : 0 ≤ a2 ∧ a2 ≤ 255 := by simpa [Lit.wf, IntKind.min, IntKind.max, IntKind.signed, IntKind.bits] using w2
  have h := hex_law W a0 len0 cap0 _ w0.bytes_.2.1 w0.bytes_.2.2 w0.cap_le a1.toNat a2.toNat (by omega) (by omega) (SinC.of_laid hL)
  rwa [Int.toNat_of_nonneg h1.1, Int.toNat_of_nonneg h2.1] at h
end Go.Proofs.YtlmomdpkolnbcaaDoor
