/- A key's digest: the function inside hmac.Sum. (Printed by gen_under.py.) -/
import Derived.Test.YthnebhnlkjkcmaaDoorDsum5
import Derived.Test.YthnebhnlkjkcmaaDoorHmP
import Derived.Test.YthnebhnlkjkcmaaDoorConcat
set_option linter.unusedVariables false
set_option linter.unusedSimpArgs false
namespace Go.Proofs.YthnebhnlkjkcmaaDoor
open Go.RowKit

theorem un_reads {w : World} {g : Nat} {t : TypeId} {X : List UInt8} (h : Blk w g t (b8s X).toArray) (n : Nat) (hX : X.length = n) : Reads w (fun b => b = g) (some ⟨g, 0, none⟩) n (b8s X) := by
  refine ⟨by rw [b8s_length, hX], fun _ => ⟨_, rfl, rfl, h.lt, fun j u hu => ?_⟩⟩
  rw [add_lit0, h.cell, List.getElem?_toArray, hu]
theorem un_len (L : List UInt8) : (md5P L).length = 16 := by simp [md5P, outL]
def UnS (w : World) (g2 g3 : Nat) (z : Array Value) (key : List UInt8) (x : UInt8) (gk : Nat) (v11 : Value) (wr : World) : Prop :=
  ∃ i, i ≤ 64 ∧ gk = 64 - i ∧ v11 = .int .i64 (i : Int) ∧ Blk wr g3 85 (b8s (xorI key x i)).toArray ∧ Blk wr g2 48 z ∧ Kept w wr NoB
set_option maxHeartbeats 8000000 in
set_option maxRecDepth 100000 in
theorem under_calls (w : World) (x : UInt8) (gk : Nat) (S T : Nat → Prop) (A : Option Addr) (n c : Nat) (key : List UInt8) (B : Option Addr) (m d : Nat) (b : List UInt8)
    (hK : w.cell? ⟨gk, 0, none⟩ = some (.slice A n c)) (hA : Reads w S A n (b8s key)) (hn : n ≤ 64) (hnc : n ≤ c) (hB : Reads w T B m (b8s b)) (hm : m ≤ 1099511627) (hC : SinC w) :
    Calls Tryd.prog 60 #[.int .u8 (x.toNat : Int), .slice B m d, .pointer (some ⟨gk, 0, none⟩)] w fun en w' => en = .returned (v16 (md5P (xorK key x ++ b))) ∧ Kept w w' NoB := by
  have hkl : key.length = n := by have := hA.1; rwa [b8s_length] at this
  have hbl : b.length = m := by have := hB.1; rwa [b8s_length] at this
  have HK := Lib.hid hK
  have HA := Lib.hid hA
  have HB := Lib.hid hB
  have HC := Lib.hid hC
  have HKL := Lib.hid hkl
  have HBL := Lib.hid hbl
  have hxlt := x.toNat_lt
  obtain ⟨xn, hxn⟩ : ∃ xn : Nat, x.toNat = xn := ⟨_, rfl⟩
  rw [hxn] at hxlt ⊢
  have HXN := Lib.hid hxn
  clear hK hA hB hC hkl hbl hxn
  go_enter Tryd.func60, Tryd.ntmps60
  go_upto_region 2 with (fail)
  have HK0 := Lib.hid (((Kept.refl w NoB).alloc (.cells #[.int .u8 0, .int .u8 0, .int .u8 0, .int .u8 0, .int .u8 0, .int .u8 0, .int .u8 0, .int .u8 0, .int .u8 0, .int .u8 0, .int .u8 0, .int .u8 0, .int .u8 0, .int .u8 0, .int .u8 0, .int .u8 0] 48)).alloc (.cells #[.int .u8 0, .int .u8 0, .int .u8 0, .int .u8 0, .int .u8 0, .int .u8 0, .int .u8 0, .int .u8 0, .int .u8 0, .int .u8 0, .int .u8 0, .int .u8 0, .int .u8 0, .int .u8 0, .int .u8 0, .int .u8 0, .int .u8 0, .int .u8 0, .int .u8 0, .int .u8 0, .int .u8 0, .int .u8 0, .int .u8 0, .int .u8 0, .int .u8 0, .int .u8 0, .int .u8 0, .int .u8 0, .int .u8 0, .int .u8 0, .int .u8 0, .int .u8 0, .int .u8 0, .int .u8 0, .int .u8 0, .int .u8 0, .int .u8 0, .int .u8 0, .int .u8 0, .int .u8 0, .int .u8 0, .int .u8 0, .int .u8 0, .int .u8 0, .int .u8 0, .int .u8 0, .int .u8 0, .int .u8 0, .int .u8 0, .int .u8 0, .int .u8 0, .int .u8 0, .int .u8 0, .int .u8 0, .int .u8 0, .int .u8 0, .int .u8 0, .int .u8 0, .int .u8 0, .int .u8 0, .int .u8 0, .int .u8 0, .int .u8 0, .int .u8 0] 85))
  have HA0 := Lib.hid ((Blk.new w 48 #[.int .u8 0, .int .u8 0, .int .u8 0, .int .u8 0, .int .u8 0, .int .u8 0, .int .u8 0, .int .u8 0, .int .u8 0, .int .u8 0, .int .u8 0, .int .u8 0, .int .u8 0, .int .u8 0, .int .u8 0, .int .u8 0]).alloc (.cells #[.int .u8 0, .int .u8 0, .int .u8 0, .int .u8 0, .int .u8 0, .int .u8 0, .int .u8 0, .int .u8 0, .int .u8 0, .int .u8 0, .int .u8 0, .int .u8 0, .int .u8 0, .int .u8 0, .int .u8 0, .int .u8 0, .int .u8 0, .int .u8 0, .int .u8 0, .int .u8 0, .int .u8 0, .int .u8 0, .int .u8 0, .int .u8 0, .int .u8 0, .int .u8 0, .int .u8 0, .int .u8 0, .int .u8 0, .int .u8 0, .int .u8 0, .int .u8 0, .int .u8 0, .int .u8 0, .int .u8 0, .int .u8 0, .int .u8 0, .int .u8 0, .int .u8 0, .int .u8 0, .int .u8 0, .int .u8 0, .int .u8 0, .int .u8 0, .int .u8 0, .int .u8 0, .int .u8 0, .int .u8 0, .int .u8 0, .int .u8 0, .int .u8 0, .int .u8 0, .int .u8 0, .int .u8 0, .int .u8 0, .int .u8 0, .int .u8 0, .int .u8 0, .int .u8 0, .int .u8 0, .int .u8 0, .int .u8 0, .int .u8 0, .int .u8 0] 85))
  have hb0 := Blk.new (w.alloc (.cells #[.int .u8 0, .int .u8 0, .int .u8 0, .int .u8 0, .int .u8 0, .int .u8 0, .int .u8 0, .int .u8 0, .int .u8 0, .int .u8 0, .int .u8 0, .int .u8 0, .int .u8 0, .int .u8 0, .int .u8 0, .int .u8 0] 48)) 85 #[.int .u8 0, .int .u8 0, .int .u8 0, .int .u8 0, .int .u8 0, .int .u8 0, .int .u8 0, .int .u8 0, .int .u8 0, .int .u8 0, .int .u8 0, .int .u8 0, .int .u8 0, .int .u8 0, .int .u8 0, .int .u8 0, .int .u8 0, .int .u8 0, .int .u8 0, .int .u8 0, .int .u8 0, .int .u8 0, .int .u8 0, .int .u8 0, .int .u8 0, .int .u8 0, .int .u8 0, .int .u8 0, .int .u8 0, .int .u8 0, .int .u8 0, .int .u8 0, .int .u8 0, .int .u8 0, .int .u8 0, .int .u8 0, .int .u8 0, .int .u8 0, .int .u8 0, .int .u8 0, .int .u8 0, .int .u8 0, .int .u8 0, .int .u8 0, .int .u8 0, .int .u8 0, .int .u8 0, .int .u8 0, .int .u8 0, .int .u8 0, .int .u8 0, .int .u8 0, .int .u8 0, .int .u8 0, .int .u8 0, .int .u8 0, .int .u8 0, .int .u8 0, .int .u8 0, .int .u8 0, .int .u8 0, .int .u8 0, .int .u8 0, .int .u8 0]
  rw [show (w.alloc (.cells #[.int .u8 0, .int .u8 0, .int .u8 0, .int .u8 0, .int .u8 0, .int .u8 0, .int .u8 0, .int .u8 0, .int .u8 0, .int .u8 0, .int .u8 0, .int .u8 0, .int .u8 0, .int .u8 0, .int .u8 0, .int .u8 0] 48)).heap.size = w.heap.size + 1 by simp, show (#[.int .u8 0, .int .u8 0, .int .u8 0, .int .u8 0, .int .u8 0, .int .u8 0, .int .u8 0, .int .u8 0, .int .u8 0, .int .u8 0, .int .u8 0, .int .u8 0, .int .u8 0, .int .u8 0, .int .u8 0, .int .u8 0, .int .u8 0, .int .u8 0, .int .u8 0, .int .u8 0, .int .u8 0, .int .u8 0, .int .u8 0, .int .u8 0, .int .u8 0, .int .u8 0, .int .u8 0, .int .u8 0, .int .u8 0, .int .u8 0, .int .u8 0, .int .u8 0, .int .u8 0, .int .u8 0, .int .u8 0, .int .u8 0, .int .u8 0, .int .u8 0, .int .u8 0, .int .u8 0, .int .u8 0, .int .u8 0, .int .u8 0, .int .u8 0, .int .u8 0, .int .u8 0, .int .u8 0, .int .u8 0, .int .u8 0, .int .u8 0, .int .u8 0, .int .u8 0, .int .u8 0, .int .u8 0, .int .u8 0, .int .u8 0, .int .u8 0, .int .u8 0, .int .u8 0, .int .u8 0, .int .u8 0, .int .u8 0, .int .u8 0, .int .u8 0] : Array Value) = (b8s (List.replicate 64 0)).toArray from rfl] at hb0
  have HB0 := Lib.hid hb0
  clear hb0
  rw [show (#[.int .u8 0, .int .u8 0, .int .u8 0, .int .u8 0, .int .u8 0, .int .u8 0, .int .u8 0, .int .u8 0, .int .u8 0, .int .u8 0, .int .u8 0, .int .u8 0, .int .u8 0, .int .u8 0, .int .u8 0, .int .u8 0, .int .u8 0, .int .u8 0, .int .u8 0, .int .u8 0, .int .u8 0, .int .u8 0, .int .u8 0, .int .u8 0, .int .u8 0, .int .u8 0, .int .u8 0, .int .u8 0, .int .u8 0, .int .u8 0, .int .u8 0, .int .u8 0, .int .u8 0, .int .u8 0, .int .u8 0, .int .u8 0, .int .u8 0, .int .u8 0, .int .u8 0, .int .u8 0, .int .u8 0, .int .u8 0, .int .u8 0, .int .u8 0, .int .u8 0, .int .u8 0, .int .u8 0, .int .u8 0, .int .u8 0, .int .u8 0, .int .u8 0, .int .u8 0, .int .u8 0, .int .u8 0, .int .u8 0, .int .u8 0, .int .u8 0, .int .u8 0, .int .u8 0, .int .u8 0, .int .u8 0, .int .u8 0, .int .u8 0, .int .u8 0] : Array Value) = (b8s (List.replicate 64 0)).toArray from rfl] at HK0 HA0 ⊢
  generalize (w.alloc (.cells #[.int .u8 0, .int .u8 0, .int .u8 0, .int .u8 0, .int .u8 0, .int .u8 0, .int .u8 0, .int .u8 0, .int .u8 0, .int .u8 0, .int .u8 0, .int .u8 0, .int .u8 0, .int .u8 0, .int .u8 0, .int .u8 0] 48)).alloc (.cells (b8s (List.replicate 64 0)).toArray 85) = W0 at *
  obtain ⟨g3, hg3⟩ : ∃ g, w.heap.size + 1 = g := ⟨_, rfl⟩
  have hg3l : w.heap.size < g3 := by omega
  rw [hg3] at HB0 ⊢
  clear hg3
  obtain ⟨g2, hg2⟩ : ∃ g, w.heap.size = g := ⟨_, rfl⟩
  have HG2 := Lib.hid hg2
  rw [hg2] at HA0 hg3l ⊢
  clear hg2
  obtain ⟨z, hz⟩ : ∃ z, (#[.int .u8 0, .int .u8 0, .int .u8 0, .int .u8 0, .int .u8 0, .int .u8 0, .int .u8 0, .int .u8 0, .int .u8 0, .int .u8 0, .int .u8 0, .int .u8 0, .int .u8 0, .int .u8 0, .int .u8 0, .int .u8 0] : Array Value) = z := ⟨_, rfl⟩
  rw [hz] at HA0
  have HZ := Lib.hid hz
  clear hz
  have ck : W0.cell? ⟨gk, 0, none⟩ = some (.slice A n c) := HK0.out.cell HK.out (fun q => q)
  have hrl : (b8s key).length = Nat.min n 64 := by rw [b8s_length, HKL.out]; exact (Nat.min_eq_left hn).symm
  have hpos : 0 < (b8s key).length → (some (⟨g3, 0, none⟩ : Addr)) = some ⟨g3, 0, none⟩ ∧ ∃ ad, A = some ad ∧ ∀ j v, (b8s key)[j]? = some v → W0.drew.cell? (ad.add j) = some v := fun hp => by
    rw [b8s_length, HKL.out] at hp
    obtain ⟨ad, e, _, _, hc⟩ := (HA.out.kept0 HK0.out).drew.2 hp
    exact ⟨rfl, ad, e, hc⟩
  have hone : ∀ v ∈ b8s key, v.oneCell' = true := fun v hv => by
    obtain ⟨b, _, rfl⟩ := List.mem_map.1 hv
    rfl
  have HR1 := Lib.hid hrl
  have HP := Lib.hid hpos
  have HO := Lib.hid hone
  clear hrl hpos hone
  obtain ⟨cur, hcur⟩ : ∃ cur, b8s (List.replicate 64 0) = cur := ⟨_, rfl⟩
  have hcl : cur.length = 64 := by rw [← hcur, b8s_length, List.length_replicate]
  have hc5 : W0.drew.heap[g3]? = some (.cells cur.toArray 85 (0, 0)) := by rw [← hcur]; exact HB0.out
  have hsp : splice cur 0 (b8s key) = b8s (xorI key x 0) := by
    unfold splice
    rw [xorI_zero key x (by rw [HKL.out]; exact hn), ← hcur, b8s_append, List.take_zero, List.nil_append, Nat.zero_add, b8s_length, HKL.out, b8s_drop, List.drop_replicate]
  have HCU := Lib.hid hc5
  have HSP := Lib.hid hsp
  have HFI : Hid (0 + (b8s key).length ≤ cur.length) := Lib.hid (by rw [hcl, b8s_length, HKL.out]; omega)
  clear hcur hcl hc5 hsp
  have k1 := Lib.hid (show (Tryd.prog.info? 5).map (·.size) = some 1 by kernel_rfl)
  go_still_tail 2, (by kernel_rfl)
  change wpList _ _ _ _ _ W0.drew
  go_wp2_with (refine wpList_copy_splice rfl _ _ 27 27 rfl 5 Tryd.underlying27 k1.out (some ⟨g3, 0, none⟩) A 64 64 n c rfl rfl g3 0 cur 85 HCU.out (b8s key) HR1.out HP.out HFI.out HO.out g3 W0.drew (Below.refl _ _) (Nat.le_refl _) ?_; intro w6 hw6 hb6)
  rw [HSP.out] at hw6
  have HW6 : Hid (Blk w6 g3 85 (b8s (xorI key x 0)).toArray) := hw6
  have hk6 : Kept W0.drew w6 (fun b => g3 ≤ b) := ⟨hb6.os, hb6.tape, hb6.output, hb6.size, fun i hi hn => hb6.block i (by omega)⟩
  have HK6 := Lib.hid (HK0.out.drew.trans hk6 fun b hb => .inr (by rw [HG2.out]; omega))
  have H26 := Lib.hid (HA0.out.drew.kept hk6 (by omega))
  clear hw6 hb6 hk6 ck HK0 HA0 HB0 HP HO HR1 HCU HSP HFI k1
  go_loopg [7, 11] 64 (fun gk _ v11 wr => UnS w g2 g3 z key x gk v11 wr)
  case atStart => exact ⟨0, Nat.zero_le _, rfl, rfl, HW6.out, H26.out, HK6.out⟩
  case round =>
    obtain ⟨i, hi, hgk, rfl, hb3, hb2, hk⟩ := hrel
    have HG := Lib.hid hgk
    have H3 := Lib.hid hb3
    have H2 := Lib.hid hb2
    have HKR := Lib.hid hk
    clear hgk hb3 hb2 hk HW6 H26 HK6
    rcases Nat.lt_or_ge i 64 with hlt | hge2
    · have ti : (i : Int) < 64 := by omega
      have hxi := xorI_at key x i hlt
      have hset0 := xorI_set key x i hlt
      obtain ⟨y, hy⟩ : ∃ y, key.getD i 0 = y := ⟨_, rfl⟩
      rw [hy] at hxi hset0
      have hcell : wr.cell? ⟨g3, i, none⟩ = some (.int .u8 (y.toNat : Int)) := by
        rw [H3.out.cell, List.getElem?_toArray]
        unfold b8s
        rw [List.getElem?_map, hxi]
        rfl
      have hfz := H3.out.frozen i
      have hgl := H3.out.lt
      have hxb := xor_B8 y x
      rw [HXN.out] at hxb
      have hrs := H3.out.set_ i (B8 (y ^^^ x))
      rw [b8s_set, hset0] at hrs
      obtain ⟨yn, hyn⟩ : ∃ n, y.toNat = n := ⟨_, rfl⟩
      have hylt := y.toNat_lt
      rw [hyn] at hcell hxb hylt
      obtain ⟨zz, hz⟩ : ∃ z, (y ^^^ x).toNat = z := ⟨_, rfl⟩
      have hB8 : B8 (y ^^^ x) = .int .u8 (zz : Int) := by unfold B8; rw [hz]
      rw [hB8] at hrs
      rw [hz] at hxb
      have HRS := Lib.hid hrs
      have e3w : w.heap.size ≤ g3 := by rw [HG2.out]; omega
      clear hxi hset0 hy hrs hyn hz hB8
      go_wp2_with fail
      go_roundg (64 - (i + 1))
      case measure => have := HG.out; omega
      case rel => exact ⟨i + 1, hlt, rfl, by go_num, HRS.out, H2.out.far (by show g2 ≠ g3; omega) _, HKR.out.setCell (.inr e3w) _⟩
    · obtain rfl : i = 64 := by omega
      rw [xorI_all] at H3
      have ti : ¬ (64 : Int) < 64 := by omega
      go_wp2_with fail
      have HK7 := Lib.hid (HKR.out.alloc (.cells #[.slice (some ⟨g3, 0, none⟩) 64 64, .slice B m d] 27))
      have H37 := Lib.hid (H3.out.alloc (.cells #[.slice (some ⟨g3, 0, none⟩) 64 64, .slice B m d] 27))
      have H27 := Lib.hid (H2.out.alloc (.cells #[.slice (some ⟨g3, 0, none⟩) 64 64, .slice B m d] 27))
      have H77 := Lib.hid (Blk.new wr 27 #[.slice (some ⟨g3, 0, none⟩) 64 64, .slice B m d])
      generalize wr.alloc (.cells #[.slice (some ⟨g3, 0, none⟩) 64 64, .slice B m d] 27) = W7 at *
      obtain ⟨g7, hg7⟩ : ∃ g, wr.heap.size = g := ⟨_, rfl⟩
      rw [hg7] at H77 ⊢
      clear hg7 H3 H2 HKR
      have hr64 := un_reads H37.out 64 (xorK_len key x)
      refine (concat_calls W7 g7 _ T (some ⟨g3, 0, none⟩) 64 64 (xorK key x) B m d b H77.out hr64 (HB.out.kept0 HK7.out) (by omega) (by omega) (by omega)).mono ?_
      rintro en w8 ⟨v, rfl, hk, hrow⟩
      have HK8 := Lib.hid (HK7.out.trans' hk)
      have H28 := Lib.hid (H27.out.kept0 hk)
      obtain ⟨X, cX, rfl, hcX, hmX⟩ := hrow.shape
      have hrd := hrow.reads'
      have hXl : (b8s (xorK key x ++ b)).length = 64 + m := by rw [b8s_length, List.length_append, xorK_len, HBL.out]
      rw [hXl] at hcX hrd ⊢
      obtain ⟨N, hN⟩ : ∃ N, 64 + m = N := ⟨_, rfl⟩
      have hNb : N ≤ 1099511691 := by omega
      rw [hN] at hcX hrd ⊢
      unfold maxLen at hmX
      have hs := sum_any w8 _ X N cX (xorK key x ++ b) hrd hcX (by omega) hmX (HC.out.kept0 HK8.out)
      obtain ⟨M, hM⟩ : ∃ M, md5P (xorK key x ++ b) = M := ⟨_, rfl⟩
      have hl16 := un_len (xorK key x ++ b)
      rw [hM] at hs hl16
      obtain ⟨r0, r1, r2, r3, r4, r5, r6, r7, r8, r9, r10, r11, r12, r13, r14, r15, hre⟩ := list16 M hl16
      have hv : v16 M = .agg #[.int .u8 (r0.toNat : Int), .int .u8 (r1.toNat : Int), .int .u8 (r2.toNat : Int), .int .u8 (r3.toNat : Int), .int .u8 (r4.toNat : Int), .int .u8 (r5.toNat : Int), .int .u8 (r6.toNat : Int), .int .u8 (r7.toNat : Int), .int .u8 (r8.toNat : Int), .int .u8 (r9.toNat : Int), .int .u8 (r10.toNat : Int), .int .u8 (r11.toNat : Int), .int .u8 (r12.toNat : Int), .int .u8 (r13.toNat : Int), .int .u8 (r14.toNat : Int), .int .u8 (r15.toNat : Int)] := by rw [hre]; rfl
      rw [hv] at hs
      have HS := Lib.hid hs
      have HM := Lib.hid hM
      have HRE := Lib.hid hre
      have HV := Lib.hid hv
      clear hk hrow hrd hXl hN hs hM hl16 hre hv hr64
      go_wp2_with fail
      (with_reducible refine HS.out.mono ?_)
      rintro en w9 ⟨rfl, hk⟩
      have HK9 := Lib.hid (HK8.out.trans' hk)
      have H29 := Lib.hid (H28.out.kept0 hk)
      rw [← HZ.out] at H29
      clear hk
      have d0 : w9.cell? ⟨g2, 0, none⟩ = some (.int .u8 0) := H29.out.cell 0
      have f0 := H29.out.frozen 0
      have d1 : w9.cell? ⟨g2, 1, none⟩ = some (.int .u8 0) := H29.out.cell 1
      have f1 := H29.out.frozen 1
      have d2 : w9.cell? ⟨g2, 2, none⟩ = some (.int .u8 0) := H29.out.cell 2
      have f2 := H29.out.frozen 2
      have d3 : w9.cell? ⟨g2, 3, none⟩ = some (.int .u8 0) := H29.out.cell 3
      have f3 := H29.out.frozen 3
      have d4 : w9.cell? ⟨g2, 4, none⟩ = some (.int .u8 0) := H29.out.cell 4
      have f4 := H29.out.frozen 4
      have d5 : w9.cell? ⟨g2, 5, none⟩ = some (.int .u8 0) := H29.out.cell 5
      have f5 := H29.out.frozen 5
      have d6 : w9.cell? ⟨g2, 6, none⟩ = some (.int .u8 0) := H29.out.cell 6
      have f6 := H29.out.frozen 6
      have d7 : w9.cell? ⟨g2, 7, none⟩ = some (.int .u8 0) := H29.out.cell 7
      have f7 := H29.out.frozen 7
      have d8 : w9.cell? ⟨g2, 8, none⟩ = some (.int .u8 0) := H29.out.cell 8
      have f8 := H29.out.frozen 8
      have d9 : w9.cell? ⟨g2, 9, none⟩ = some (.int .u8 0) := H29.out.cell 9
      have f9 := H29.out.frozen 9
      have d10 : w9.cell? ⟨g2, 10, none⟩ = some (.int .u8 0) := H29.out.cell 10
      have f10 := H29.out.frozen 10
      have d11 : w9.cell? ⟨g2, 11, none⟩ = some (.int .u8 0) := H29.out.cell 11
      have f11 := H29.out.frozen 11
      have d12 : w9.cell? ⟨g2, 12, none⟩ = some (.int .u8 0) := H29.out.cell 12
      have f12 := H29.out.frozen 12
      have d13 : w9.cell? ⟨g2, 13, none⟩ = some (.int .u8 0) := H29.out.cell 13
      have f13 := H29.out.frozen 13
      have d14 : w9.cell? ⟨g2, 14, none⟩ = some (.int .u8 0) := H29.out.cell 14
      have f14 := H29.out.frozen 14
      have d15 : w9.cell? ⟨g2, 15, none⟩ = some (.int .u8 0) := H29.out.cell 15
      have f15 := H29.out.frozen 15
      have hgl := H29.out.lt
      go_wp2_with fail
      refine bodyPost_ret (results_cell_row rfl _ _ g2 48 _ (0, 0) _ rfl (blk16 H29.out r0 r1 r2 r3 r4 r5 r6 r7 r8 r9 r10 r11 r12 r13 r14 r15) Tryd.underlying48 rfl (by kernel_rfl)) rfl ?_
      have e2 : w.heap.size ≤ g2 := by rw [HG2.out]; exact Nat.le_refl _
      exact ⟨by rw [HM.out, HRE.out]; rfl, kept16 HK9.out e2 _ _ _ _ _ _ _ _ _ _ _ _ _ _ _ _⟩
end Go.Proofs.YthnebhnlkjkcmaaDoor
