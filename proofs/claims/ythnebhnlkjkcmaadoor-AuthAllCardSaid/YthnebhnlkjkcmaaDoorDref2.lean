/- The reference's digests: padded. -/
import Derived.Test.YthnebhnlkjkcmaaDoorDref1
set_option linter.unusedVariables false
set_option linter.unusedSimpArgs false
namespace Go.Proofs.YthnebhnlkjkcmaaDoor
open Go.RowKit

theorem u8_info : (Tryd.prog.info? 5).map (fun i => (i.zero, i.size, i.bytes)) = some (some (.int .u8 0), 1, 1) := by kernel_rfl
def PdS (w0 : World) (L : List UInt8) (gk : Nat) (v2 : Value) (wr : World) : Prop :=
  ∃ k, k ≤ zN L.length ∧ gk = zN L.length - k ∧ Row wr 5 (fun b => w0.heap.size ≤ b) v2 (b8s (padK L k)) ∧ Kept w0 wr NoB
def PdT (w0 : World) (L : List UInt8) (gk : Nat) (v2 v4 : Value) (wr : World) : Prop :=
  ∃ j, j ≤ 8 ∧ gk = 8 - j ∧ v4 = .int .i64 (j : Int) ∧ Row wr 5 (fun b => w0.heap.size ≤ b) v2 (b8s (padJ L j)) ∧ Kept w0 wr NoB
set_option maxHeartbeats 4000000 in
set_option maxRecDepth 100000 in
theorem padded_calls (w : World) (S : Nat → Prop) (A : Option Addr) (n c : Nat) (L : List UInt8) (hR : Reads w S A n (b8s L)) (hn : n ≤ 1099511627776) :
    Calls Tryd.prog 49 #[.slice A n c] w fun en w' => ∃ v, en = .returned v ∧ Kept w w' NoB ∧ Row w' 5 (fun b => w.heap.size ≤ b) v (b8s (padL L)) := by
  have hln : L.length = n := by have := hR.1; rwa [b8s_length] at this
  have HR := Lib.hid hR
  have HLN := Lib.hid hln
  clear hR hln
  go_enter Tryd.func49, Tryd.ntmps49
  go_wp2_with (first
    | (at_builtin; refine wpList_appN (W := w.alloc (.cells #[] 5)) rfl _ _ 27 5 (.int .u8 0) 1 rfl Tryd.underlying27 u8_info rfl (by decide) (fun b => w.heap.size ≤ b) _ (.slice (some ⟨w.heap.size, 0, none⟩) 0 0) [] (b8s L) A n c rfl rfl (fun u hu => by obtain ⟨b, _, rfl⟩ := List.mem_map.1 hu; rfl) (Row.made0 w 5 _ (Nat.le_refl _)) (HR.out.alloc _) (fun k hk => by simp at hk; omega) (by simp; omega) ?_; intro v1 w1 hrow1 hk1 hob1)
    | (at_builtin; refine wpList_app1 (W := w1) rfl _ _ 27 5 (.int .u8 0) 1 rfl Tryd.underlying27 u8_info rfl (by decide) (fun b => w.heap.size ≤ b) v1 (b8s L) (.int .u8 128) rfl rfl rfl (by simpa using hrow1) (fun k hk => by have := hk1.size; simp at this; omega) (by rw [b8s_length, HLN.out]; omega) ?_; intro v2 w2 hrow2 hk2 hob2))
  have HK2 := Lib.hid ((((Kept.refl w NoB).alloc (.cells #[] 5)).trans hk1 fun b hb => .inr (by have := ob_lit hb; omega)).trans hk2 fun b hb => .inr (hrow1.2 b hb))
  have hp0 : b8s L ++ [.int .u8 128] = b8s (padK L 0) := by simp [padK, b8s, B8]
  rw [hp0] at hrow2
  have HR2 := Lib.hid hrow2
  clear hrow1 hk1 hob1 hrow2 hk2 hob2 hp0
  go_loopg [3] (zN n) (fun gk v3 wr => PdS w L gk v3 wr)
  case atStart => exact ⟨0, Nat.zero_le _, by rw [HLN.out]; rfl, HR2.out, HK2.out⟩
  case round =>
    obtain ⟨k, hkz, hgk, hrow, hk⟩ := hrel
    have HG := Lib.hid hgk
    have HROW := Lib.hid hrow
    have HK := Lib.hid hk
    rw [HLN.out] at hkz
    obtain ⟨A2, c2, rfl, hc2, hm2⟩ := hrow.shape
    have hlen : (b8s (padK L k)).length = n + 1 + k := by rw [b8s_length, padK_len, HLN.out]
    rw [hlen] at hc2 HROW ⊢
    have htest := zN_test n k hkz
    have hz63 : zN n ≤ 63 := by unfold zN; omega
    obtain ⟨m, hm⟩ : ∃ m, n + 1 + k = m := ⟨_, rfl⟩
    rw [hm] at hc2 HROW htest ⊢
    have hmb : m ≤ 1099511627900 := by omega
    have HM := Lib.hid hm
    have HLE := Lib.hid hlen
    clear hgk hrow hk hlen hm
    rcases Nat.lt_or_ge k (zN n) with hlt | hge
    · have hne : ¬ m % 64 = 56 := fun h => by have := htest.1 h; omega
      have t1 : ((m : Int) % 64 == 56) = false := by rw [beq_eq_false_iff_ne]; omega
      have t1' : ((m : Int) % 64 != 56) = true := by rw [bne, t1]; rfl
      have hszd := HK.out.size
      have HB : Hid (((b8s (padK L k)).length + 1) * 1 ≤ 140737488355328) := Lib.hid (by rw [HLE.out]; omega)
      clear htest hne
      go_wp2_with (at_builtin; refine wpList_app1 (W := wr) rfl _ _ 27 5 (.int .u8 0) 1 rfl Tryd.underlying27 u8_info rfl (by decide) (fun b => w.heap.size ≤ b) (.slice A2 m c2) (b8s (padK L k)) (.int .u8 0) rfl rfl rfl HROW.out (fun k hk => Nat.le_trans hszd hk) HB.out ?_; intro v3 w3 hrow3 hk3 hob3)
      have HK3 := Lib.hid (HK.out.trans hk3 fun b hb => .inr (HROW.out.2 b hb))
      have HR3 := Lib.hid hrow3
      clear hrow3 hk3 hob3
      go_roundg (zN n - (k + 1))
      case measure => have := HG.out; rw [HLN.out] at this; omega
      case rel => exact ⟨k + 1, by rw [HLN.out]; omega, by rw [HLN.out], by rw [padK_snoc, b8s_append]; exact HR3.out, HK3.out⟩
    · obtain rfl : k = zN n := by omega
      have he : m % 64 = 56 := htest.2 rfl
      have t1 : ((m : Int) % 64 == 56) = true := by rw [beq_iff_eq]; omega
      have t1' : ((m : Int) % 64 != 56) = false := by rw [bne, t1]; rfl
      have hp0 : padK L (zN n) = padJ L 0 := by unfold padJ; rw [HLN.out]; simp
      rw [hp0] at HROW HLE
      clear htest he hp0
      have HM2 : Hid (m = n + 1 + zN n) := Lib.hid HM.out.symm
      go_wp2_with fail
      go_loopg [3, 5] 8 (fun gk v3 v5 wr => PdT w L gk v3 v5 wr)
      case atStart => exact ⟨0, Nat.zero_le _, rfl, rfl, HROW.out, HK.out⟩
      case round =>
        obtain ⟨j, hj, hgk, rfl, hrow, hk⟩ := hrel
        have HG2 := Lib.hid hgk
        have HROW2 := Lib.hid hrow
        have HKJ := Lib.hid hk
        obtain ⟨A3, c3, rfl, hc3, hm3⟩ := hrow.shape
        have hlen : (b8s (padJ L j)).length = n + 1 + zN n + j := by rw [b8s_length, padJ_len, HLN.out]
        rw [hlen] at hc3 HROW2 ⊢
        obtain ⟨m', hm'⟩ : ∃ m', n + 1 + zN n + j = m' := ⟨_, rfl⟩
        rw [hm'] at hc3 HROW2 ⊢
        have hmb' : m' ≤ 1099511627900 := by omega
        have HB : Hid (((b8s (padJ L j)).length + 1) * 1 ≤ 140737488355328) := Lib.hid (by rw [hlen]; omega)
        clear hgk hrow hk hlen hm'
        rcases Nat.lt_or_ge j 8 with hlt | hge
        · have tj : (j : Int) < 8 := by omega
          have hszd := HKJ.out.size
          have hlb : (((n : Int) * 8) / 2 ^ (8 * j)) % 256 = ((lenB n j).toNat : Int) := by
            unfold lenB
            rw [UInt8.toNat_ofNat']
            simp
          obtain ⟨y, hy⟩ : ∃ y : Nat, (lenB n j).toNat = y := ⟨_, rfl⟩
          have HB8 : Hid (B8 (lenB n j) = .int .u8 (y : Int)) := Lib.hid (by unfold B8; rw [hy])
          rw [hy] at hlb
          clear hy
          go_wp2_with (at_builtin; refine wpList_app1 (W := wr) rfl _ _ 27 5 (.int .u8 0) 1 rfl Tryd.underlying27 u8_info rfl (by decide) (fun b => w.heap.size ≤ b) (.slice A3 m' c3) (b8s (padJ L j)) (.int .u8 (y : Int)) rfl rfl rfl HROW2.out (fun k hk => Nat.le_trans hszd hk) HB.out ?_; intro v3 w3 hrow3 hk3 hob3)
          have HK3 := Lib.hid (HKJ.out.trans hk3 fun b hb => .inr (HROW2.out.2 b hb))
          have HR3 := Lib.hid hrow3
          clear hrow3 hk3 hob3
          go_roundg (8 - (j + 1))
          case measure => have := HG2.out; omega
          case rel => exact ⟨j + 1, hlt, rfl, by go_num, by rw [padJ_snoc, b8s_append, HLN.out]; unfold b8s at *; simp only [List.map_cons, List.map_nil, HB8.out]; exact HR3.out, HK3.out⟩
        · obtain rfl : j = 8 := by omega
          have tj : ¬ (8 : Int) < 8 := by omega
          go_wp2_with fail
          go_ret
          exact ⟨_, rfl, HKJ.out, HROW2.out⟩
end Go.Proofs.YthnebhnlkjkcmaaDoor
