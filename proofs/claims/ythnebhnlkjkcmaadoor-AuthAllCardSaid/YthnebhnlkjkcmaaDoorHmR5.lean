/- The reference's padded, Sum and Hex. (Printed by gen_hmr.py.) -/
import Derived.Test.YthnebhnlkjkcmaaDoorDref35
import Derived.Test.YthnebhnlkjkcmaaDoorHexR5
import Derived.Test.YthnebhnlkjkcmaaDoorHmP
import Derived.Test.YthnebhnlkjkcmaaDoorConcat
import Derived.Test.YthnebhnlkjkcmaaDoorStepN
set_option linter.unusedVariables false
set_option linter.unusedSimpArgs false
namespace Go.Proofs.YthnebhnlkjkcmaaDoor
open Go.RowKit

theorem hm_len16 (L : List UInt8) : (md5P L).length = 16 := by simp [md5P, outL]
theorem hm_v16 (M : List UInt8) (h : M.length = 16) : ∃ r0 r1 r2 r3 r4 r5 r6 r7 r8 r9 r10 r11 r12 r13 r14 r15 : UInt8, M = [r0, r1, r2, r3, r4, r5, r6, r7, r8, r9, r10, r11, r12, r13, r14, r15] ∧ v16 M = .agg #[.int .u8 (r0.toNat : Int), .int .u8 (r1.toNat : Int), .int .u8 (r2.toNat : Int), .int .u8 (r3.toNat : Int), .int .u8 (r4.toNat : Int), .int .u8 (r5.toNat : Int), .int .u8 (r6.toNat : Int), .int .u8 (r7.toNat : Int), .int .u8 (r8.toNat : Int), .int .u8 (r9.toNat : Int), .int .u8 (r10.toNat : Int), .int .u8 (r11.toNat : Int), .int .u8 (r12.toNat : Int), .int .u8 (r13.toNat : Int), .int .u8 (r14.toNat : Int), .int .u8 (r15.toNat : Int)] := by
  obtain ⟨r0, r1, r2, r3, r4, r5, r6, r7, r8, r9, r10, r11, r12, r13, r14, r15, rfl⟩ := list16 M h
  exact ⟨r0, r1, r2, r3, r4, r5, r6, r7, r8, r9, r10, r11, r12, r13, r14, r15, rfl, rfl⟩
theorem hm_reads {w : World} {g : Nat} {t : TypeId} {X : List UInt8} (h : Blk w g t (b8s X).toArray) (n : Nat) (hX : X.length = n) : Reads w (fun b => b = g) (some ⟨g, 0, none⟩) n (b8s X) := by
  refine ⟨by rw [b8s_length, hX], fun _ => ⟨_, rfl, rfl, h.lt, fun j u hu => ?_⟩⟩
  rw [add_lit0, h.cell, List.getElem?_toArray, hu]
def PaS (w0 : World) (K : List UInt8) (gk : Nat) (v5 : Value) (wr : World) : Prop :=
  ∃ k, k + K.length ≤ 64 ∧ gk = 64 - K.length - k ∧ Row wr 5 (fun b => w0.heap.size ≤ b) v5 (b8s (K ++ List.replicate k 0)) ∧ Kept w0 wr NoB
def PaT (w0 : World) (K : List UInt8) (x : UInt8) (g c : Nat) (gk : Nat) (v7 : Value) (wr : World) : Prop :=
  ∃ i, i ≤ 64 ∧ gk = 64 - i ∧ v7 = .int .i64 (i : Int) ∧ Row wr 5 (fun b => w0.heap.size ≤ b) (.slice (some ⟨g, 0, none⟩) 64 c) (b8s (xorI K x i)) ∧ Kept w0 wr NoB
set_option maxHeartbeats 8000000 in
set_option maxRecDepth 100000 in
theorem refPad_calls (w : World) (S : Nat → Prop) (A : Option Addr) (n c : Nat) (key : List UInt8) (x : UInt8) (hA : Reads w S A n (b8s key)) (hn : n ≤ 1099511627) :
    Calls Tryd.prog 63 #[.slice A n c, .int .u8 (x.toNat : Int)] w fun en w' => ∃ v, en = .returned v ∧ Kept w w' NoB ∧ Row w' 5 (fun b => w.heap.size ≤ b) v (b8s (xorK (keyP key) x)) := by
  have hkl : key.length = n := by have := hA.1; rwa [b8s_length] at this
  have HA := Lib.hid hA
  have HKL := Lib.hid hkl
  have hkp : keyP key = if 64 < n then md5P key else key := by rw [← hkl]; rfl
  have HKP := Lib.hid hkp
  have hxlt := x.toNat_lt
  obtain ⟨xn, hxn⟩ : ∃ xn : Nat, x.toNat = xn := ⟨_, rfl⟩
  rw [hxn] at hxlt ⊢
  have HXN := Lib.hid hxn
  clear hA hkl hkp hxn
  go_enter Tryd.func63, Tryd.ntmps63
  go_upto_region 2 with (at_builtin; refine wpList_appN (W := w.alloc (.cells #[] 5)) rfl _ _ 27 5 (.int .u8 0) 1 rfl Tryd.underlying27 cc_info rfl (by decide) (fun b => w.heap.size ≤ b) _ (.slice (some ⟨w.heap.size, 0, none⟩) 0 0) [] (b8s key) A n c rfl rfl cc_one (Row.made0 w 5 _ (Nat.le_refl _)) (HA.out.alloc _) (fun k hk => by simp at hk; omega) (by simp; omega) ?_; intro v1 w1 hrow1 hk1 hob1)
  have HK1 := Lib.hid (((Kept.refl w NoB).alloc (.cells #[] 5)).trans hk1 fun b hb => .inr (by have := ob_lit hb; omega))
  rw [List.nil_append] at hrow1
  obtain ⟨A1, c1, rfl, hc1, hm1⟩ := hrow1.shape
  rw [b8s_length, HKL.out] at hrow1 hc1 ⊢
  have hrd1 := hrow1.reads'
  rw [b8s_length, HKL.out] at hrd1
  have HR1 := Lib.hid hrow1
  have HD1 := Lib.hid hrd1
  clear hrow1 hk1 hob1 hrd1
  by_cases hbig : 64 < n
  · have t0 : (64 : Int) < (n : Int) := by omega
    have hs := refSum_calls w1 _ A1 n c1 key HD1.out hn
    have hlM := hm_len16 key
    obtain ⟨K, hK⟩ : ∃ M, md5P key = M := ⟨_, rfl⟩
    rw [hK] at hs hlM
    obtain ⟨r0, r1, r2, r3, r4, r5, r6, r7, r8, r9, r10, r11, r12, r13, r14, r15, hd, hv⟩ := hm_v16 K hlM
    rw [hv] at hs
    have HD := Lib.hid hd
    have HKK : Hid (keyP key = K) := Lib.hid (by rw [HKP.out, if_pos hbig, hK])
    have HLK : Hid (K.length = 16) := Lib.hid hlM
    have HS := Lib.hid hs
    clear hs hd hv hK hlM
    go_wp2_with fail
    (with_reducible refine HS.out.mono ?_)
    rintro en w2 ⟨rfl, hk⟩
    have HK2 := Lib.hid (HK1.out.trans' hk)
    clear hk
    go_upto_region 4 with (fail)
    have HK3 := Lib.hid (HK2.out.alloc (.cells #[.int .u8 (r0.toNat : Int), .int .u8 (r1.toNat : Int), .int .u8 (r2.toNat : Int), .int .u8 (r3.toNat : Int), .int .u8 (r4.toNat : Int), .int .u8 (r5.toNat : Int), .int .u8 (r6.toNat : Int), .int .u8 (r7.toNat : Int), .int .u8 (r8.toNat : Int), .int .u8 (r9.toNat : Int), .int .u8 (r10.toNat : Int), .int .u8 (r11.toNat : Int), .int .u8 (r12.toNat : Int), .int .u8 (r13.toNat : Int), .int .u8 (r14.toNat : Int), .int .u8 (r15.toNat : Int)] 48))
    have hb3 := Blk.new w2 48 #[.int .u8 (r0.toNat : Int), .int .u8 (r1.toNat : Int), .int .u8 (r2.toNat : Int), .int .u8 (r3.toNat : Int), .int .u8 (r4.toNat : Int), .int .u8 (r5.toNat : Int), .int .u8 (r6.toNat : Int), .int .u8 (r7.toNat : Int), .int .u8 (r8.toNat : Int), .int .u8 (r9.toNat : Int), .int .u8 (r10.toNat : Int), .int .u8 (r11.toNat : Int), .int .u8 (r12.toNat : Int), .int .u8 (r13.toNat : Int), .int .u8 (r14.toNat : Int), .int .u8 (r15.toNat : Int)]
    have e3 : (#[.int .u8 (r0.toNat : Int), .int .u8 (r1.toNat : Int), .int .u8 (r2.toNat : Int), .int .u8 (r3.toNat : Int), .int .u8 (r4.toNat : Int), .int .u8 (r5.toNat : Int), .int .u8 (r6.toNat : Int), .int .u8 (r7.toNat : Int), .int .u8 (r8.toNat : Int), .int .u8 (r9.toNat : Int), .int .u8 (r10.toNat : Int), .int .u8 (r11.toNat : Int), .int .u8 (r12.toNat : Int), .int .u8 (r13.toNat : Int), .int .u8 (r14.toNat : Int), .int .u8 (r15.toNat : Int)] : Array Value) = (b8s K).toArray := by rw [HD.out]; rfl
    generalize w2.alloc (.cells #[.int .u8 (r0.toNat : Int), .int .u8 (r1.toNat : Int), .int .u8 (r2.toNat : Int), .int .u8 (r3.toNat : Int), .int .u8 (r4.toNat : Int), .int .u8 (r5.toNat : Int), .int .u8 (r6.toNat : Int), .int .u8 (r7.toNat : Int), .int .u8 (r8.toNat : Int), .int .u8 (r9.toNat : Int), .int .u8 (r10.toNat : Int), .int .u8 (r11.toNat : Int), .int .u8 (r12.toNat : Int), .int .u8 (r13.toNat : Int), .int .u8 (r14.toNat : Int), .int .u8 (r15.toNat : Int)] 48) = W3 at *
    rw [e3] at hb3
    have hrd3 := hm_reads hb3 16 HLK.out
    have HRD3 := Lib.hid hrd3
    clear hb3 hrd3 e3
    obtain ⟨g8, hg8⟩ : ∃ g, w2.heap.size = g := ⟨_, rfl⟩
    rw [hg8] at HRD3 ⊢
    clear hg8
    have hsz3 := HK3.out.size
    go_wp2_with (at_builtin; refine wpList_appN (W := W3.alloc (.cells #[] 5)) rfl _ _ 27 5 (.int .u8 0) 1 rfl Tryd.underlying27 cc_info rfl (by decide) (fun b => w.heap.size ≤ b) _ (.slice (some ⟨W3.heap.size, 0, none⟩) 0 0) [] (b8s K) (some ⟨g8, 0, none⟩) 16 16 rfl rfl cc_one (Row.made0 W3 5 _ hsz3) (HRD3.out.alloc _) (fun k hk => by simp at hk; omega) (by simp) ?_; intro v4 w4 hrow4 hk4 hob4)
    have HK4 := Lib.hid ((HK3.out.alloc (.cells #[] 5)).trans hk4 fun b hb => .inr (by have := ob_lit hb; omega))
    rw [List.nil_append] at hrow4
    have HR4 := Lib.hid hrow4
    clear hrow4 hk4 hob4
    obtain ⟨kn, hkn⟩ : ∃ k, k = 16 := ⟨_, rfl⟩
    have hkn64 : kn ≤ 64 := by omega
    have HLK2 : Hid (K.length = kn) := Lib.hid (by rw [hkn]; exact HLK.out)
    clear hkn
    go_loopg [5] (64 - kn) (fun gk v5 wr => PaS w K gk v5 wr)
    case atStart => exact ⟨0, by rw [HLK2.out]; omega, by rw [HLK2.out]; rfl, by simpa using HR4.out, HK4.out⟩
    case round =>
      obtain ⟨k, hk64, hgk, hrow, hk⟩ := hrel
      have HG := Lib.hid hgk
      have HROW := Lib.hid hrow
      have HKR := Lib.hid hk
      rw [HLK2.out] at hk64
      obtain ⟨A5, c5, rfl, hc5, hm5⟩ := hrow.shape
      have hlen : (b8s (K ++ List.replicate k 0)).length = kn + k := by rw [b8s_length, List.length_append, List.length_replicate, HLK2.out]
      rw [hlen] at hc5 HROW ⊢
      obtain ⟨m, hm⟩ : ∃ m, kn + k = m := ⟨_, rfl⟩
      rw [hm] at hc5 HROW ⊢
      have hmb : m ≤ 64 := by omega
      have HM := Lib.hid hm
      have HB : Hid (((b8s (K ++ List.replicate k 0)).length + 1) * 1 ≤ 140737488355328) := Lib.hid (by rw [hlen]; omega)
      have hszd := hk.size
      clear hgk hrow hk hlen hm
      rcases Nat.lt_or_ge m 64 with hlt | hge
      · have t1 : (m : Int) < 64 := by omega
        go_wp2_with (at_builtin; refine wpList_app1 (W := wr) rfl _ _ 27 5 (.int .u8 0) 1 rfl Tryd.underlying27 cc_info rfl (by decide) (fun b => w.heap.size ≤ b) (.slice A5 m c5) (b8s (K ++ List.replicate k 0)) (.int .u8 0) rfl rfl rfl HROW.out (fun k hk => Nat.le_trans hszd hk) HB.out ?_; intro v3 w3 hrow3 hk3 hob3)
        have HK3 := Lib.hid (HKR.out.trans hk3 fun b hb => .inr (HROW.out.2 b hb))
        have hz : b8s (K ++ List.replicate k 0) ++ [.int .u8 0] = b8s (K ++ List.replicate (k + 1) 0) := by rw [List.replicate_succ', ← List.append_assoc, b8s_append (K ++ List.replicate k 0)]; rfl
        rw [hz] at hrow3
        have HR3 := Lib.hid hrow3
        clear hrow3 hk3 hob3 hz
        go_roundg (64 - kn - (k + 1))
        case measure => have := HG.out; have := HM.out; rw [HLK2.out] at *; omega
        case rel => exact ⟨k + 1, by rw [HLK2.out]; have := HM.out; omega, by rw [HLK2.out], HR3.out, HK3.out⟩
      · obtain rfl : m = 64 := by omega
        have hx0 : K ++ List.replicate k 0 = xorI K x 0 := by rw [xorI_zero K x (by rw [HLK2.out]; omega), HLK2.out]; congr 2; have := HM.out; omega
        rw [hx0] at HROW
        obtain ⟨g, c6, cur, hv, _⟩ := HROW.out.form (by rw [b8s_length, xorI_len]; omega)
        rw [b8s_length, xorI_len] at hv
        injection hv with e1 e2 e3
        subst e1
        clear e2 e3 hx0 HB
        have t1 : ¬ (64 : Int) < 64 := by omega
        go_wp2_with fail
        go_loopg [7] 64 (fun gk v7 wr => PaT w K x g c5 gk v7 wr)
        case atStart => exact ⟨0, Nat.zero_le _, rfl, rfl, HROW.out, HKR.out⟩
        case round =>
          obtain ⟨i, hi, hgk, rfl, hrow, hk⟩ := hrel
          have HG2 := Lib.hid hgk
          have HROW2 := Lib.hid hrow
          have HKJ := Lib.hid hk
          clear hgk hrow hk
          rcases Nat.lt_or_ge i 64 with hlt | hge2
          · have ti : (i : Int) < 64 := by omega
            have hxi := xorI_at K x i hlt
            have hset0 := xorI_set K x i hlt
            obtain ⟨y, hy⟩ : ∃ y, K.getD i 0 = y := ⟨_, rfl⟩
            rw [hy] at hxi hset0
            obtain ⟨hcell, hfz, hgl, hSg⟩ := HROW2.out.at_ (j := i) (u := .int .u8 (y.toNat : Int)) (by unfold b8s; rw [List.getElem?_map, hxi]; rfl)
            have hxb := xor_B8 y x
            rw [HXN.out] at hxb
            have hrs := HROW2.out.set i (B8 (y ^^^ x))
            have hset : (b8s (xorI K x i)).set i (B8 (y ^^^ x)) = b8s (xorI K x (i + 1)) := by rw [← hset0]; unfold b8s; rw [List.map_set]
            rw [hset] at hrs
            obtain ⟨yn, hyn⟩ : ∃ n, y.toNat = n := ⟨_, rfl⟩
            have hylt := y.toNat_lt
            rw [hyn] at hcell hxb hylt
            obtain ⟨z, hz⟩ : ∃ z, (y ^^^ x).toNat = z := ⟨_, rfl⟩
            have hB8 : B8 (y ^^^ x) = .int .u8 (z : Int) := by unfold B8; rw [hz]
            rw [hB8] at hrs
            rw [hz] at hxb
            have HRS := Lib.hid hrs
            have HSG := Lib.hid hSg
            clear hxi hset0 hy hrs hset hyn hz hB8 hSg
            go_wp2_with fail
            go_roundg (64 - (i + 1))
            case measure => have := HG2.out; omega
            case rel => exact ⟨i + 1, hlt, rfl, by go_num, HRS.out, HKJ.out.setCell (.inr HSG.out) _⟩
          · obtain rfl : i = 64 := by omega
            rw [xorI_all] at HROW2
            have ti : ¬ (64 : Int) < 64 := by omega
            go_wp2_with fail
            go_ret
            exact ⟨_, rfl, HKJ.out, by rw [HKK.out]; exact HROW2.out⟩
  · have t0 : ¬ (64 : Int) < (n : Int) := by omega
    obtain ⟨K, hK⟩ : ∃ K, key = K := ⟨_, rfl⟩
    have HKK : Hid (keyP key = K) := Lib.hid (by rw [HKP.out, if_neg hbig, hK])
    rw [hK] at HR1 HKL
    obtain ⟨kn, hkn⟩ : ∃ k, k = n := ⟨_, rfl⟩
    have hkn64 : kn ≤ 64 := by omega
    have HLK2 : Hid (K.length = kn) := Lib.hid (by rw [hkn]; exact HKL.out)
    clear hkn hK
    go_wp2_with fail
    go_loopg [5] (64 - kn) (fun gk v5 wr => PaS w K gk v5 wr)
    case atStart => exact ⟨0, by rw [HLK2.out]; omega, by rw [HLK2.out]; rfl, by simpa using HR1.out, HK1.out⟩
    case round =>
      obtain ⟨k, hk64, hgk, hrow, hk⟩ := hrel
      have HG := Lib.hid hgk
      have HROW := Lib.hid hrow
      have HKR := Lib.hid hk
      rw [HLK2.out] at hk64
      obtain ⟨A5, c5, rfl, hc5, hm5⟩ := hrow.shape
      have hlen : (b8s (K ++ List.replicate k 0)).length = kn + k := by rw [b8s_length, List.length_append, List.length_replicate, HLK2.out]
      rw [hlen] at hc5 HROW ⊢
      obtain ⟨m, hm⟩ : ∃ m, kn + k = m := ⟨_, rfl⟩
      rw [hm] at hc5 HROW ⊢
      have hmb : m ≤ 64 := by omega
      have HM := Lib.hid hm
      have HB : Hid (((b8s (K ++ List.replicate k 0)).length + 1) * 1 ≤ 140737488355328) := Lib.hid (by rw [hlen]; omega)
      have hszd := hk.size
      clear hgk hrow hk hlen hm
      rcases Nat.lt_or_ge m 64 with hlt | hge
      · have t1 : (m : Int) < 64 := by omega
        go_wp2_with (at_builtin; refine wpList_app1 (W := wr) rfl _ _ 27 5 (.int .u8 0) 1 rfl Tryd.underlying27 cc_info rfl (by decide) (fun b => w.heap.size ≤ b) (.slice A5 m c5) (b8s (K ++ List.replicate k 0)) (.int .u8 0) rfl rfl rfl HROW.out (fun k hk => Nat.le_trans hszd hk) HB.out ?_; intro v3 w3 hrow3 hk3 hob3)
        have HK3 := Lib.hid (HKR.out.trans hk3 fun b hb => .inr (HROW.out.2 b hb))
        have hz : b8s (K ++ List.replicate k 0) ++ [.int .u8 0] = b8s (K ++ List.replicate (k + 1) 0) := by rw [List.replicate_succ', ← List.append_assoc, b8s_append (K ++ List.replicate k 0)]; rfl
        rw [hz] at hrow3
        have HR3 := Lib.hid hrow3
        clear hrow3 hk3 hob3 hz
        go_roundg (64 - kn - (k + 1))
        case measure => have := HG.out; have := HM.out; rw [HLK2.out] at *; omega
        case rel => exact ⟨k + 1, by rw [HLK2.out]; have := HM.out; omega, by rw [HLK2.out], HR3.out, HK3.out⟩
      · obtain rfl : m = 64 := by omega
        have hx0 : K ++ List.replicate k 0 = xorI K x 0 := by rw [xorI_zero K x (by rw [HLK2.out]; omega), HLK2.out]; congr 2; have := HM.out; omega
        rw [hx0] at HROW
        obtain ⟨g, c6, cur, hv, _⟩ := HROW.out.form (by rw [b8s_length, xorI_len]; omega)
        rw [b8s_length, xorI_len] at hv
        injection hv with e1 e2 e3
        subst e1
        clear e2 e3 hx0 HB
        have t1 : ¬ (64 : Int) < 64 := by omega
        go_wp2_with fail
        go_loopg [7] 64 (fun gk v7 wr => PaT w K x g c5 gk v7 wr)
        case atStart => exact ⟨0, Nat.zero_le _, rfl, rfl, HROW.out, HKR.out⟩
        case round =>
          obtain ⟨i, hi, hgk, rfl, hrow, hk⟩ := hrel
          have HG2 := Lib.hid hgk
          have HROW2 := Lib.hid hrow
          have HKJ := Lib.hid hk
          clear hgk hrow hk
          rcases Nat.lt_or_ge i 64 with hlt | hge2
          · have ti : (i : Int) < 64 := by omega
            have hxi := xorI_at K x i hlt
            have hset0 := xorI_set K x i hlt
            obtain ⟨y, hy⟩ : ∃ y, K.getD i 0 = y := ⟨_, rfl⟩
            rw [hy] at hxi hset0
            obtain ⟨hcell, hfz, hgl, hSg⟩ := HROW2.out.at_ (j := i) (u := .int .u8 (y.toNat : Int)) (by unfold b8s; rw [List.getElem?_map, hxi]; rfl)
            have hxb := xor_B8 y x
            rw [HXN.out] at hxb
            have hrs := HROW2.out.set i (B8 (y ^^^ x))
            have hset : (b8s (xorI K x i)).set i (B8 (y ^^^ x)) = b8s (xorI K x (i + 1)) := by rw [← hset0]; unfold b8s; rw [List.map_set]
            rw [hset] at hrs
            obtain ⟨yn, hyn⟩ : ∃ n, y.toNat = n := ⟨_, rfl⟩
            have hylt := y.toNat_lt
            rw [hyn] at hcell hxb hylt
            obtain ⟨z, hz⟩ : ∃ z, (y ^^^ x).toNat = z := ⟨_, rfl⟩
            have hB8 : B8 (y ^^^ x) = .int .u8 (z : Int) := by unfold B8; rw [hz]
            rw [hB8] at hrs
            rw [hz] at hxb
            have HRS := Lib.hid hrs
            have HSG := Lib.hid hSg
            clear hxi hset0 hy hrs hset hyn hz hB8 hSg
            go_wp2_with fail
            go_roundg (64 - (i + 1))
            case measure => have := HG2.out; omega
            case rel => exact ⟨i + 1, hlt, rfl, by go_num, HRS.out, HKJ.out.setCell (.inr HSG.out) _⟩
          · obtain rfl : i = 64 := by omega
            rw [xorI_all] at HROW2
            have ti : ¬ (64 : Int) < 64 := by omega
            go_wp2_with fail
            go_ret
            exact ⟨_, rfl, HKJ.out, by rw [HKK.out]; exact HROW2.out⟩
end Go.Proofs.YthnebhnlkjkcmaaDoor
