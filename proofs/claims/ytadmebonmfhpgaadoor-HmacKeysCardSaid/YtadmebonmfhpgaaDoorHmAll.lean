/- HmacAll's walk. (Printed by gen_hmh.py.) -/
import Derived.Test.YtadmebonmfhpgaaDoorHmH
set_option linter.unusedVariables false
set_option linter.unusedSimpArgs false
namespace Go.Proofs.YtadmebonmfhpgaaDoor
open Go.RowKit Go.Shelf Go.Lib

set_option maxHeartbeats 8000000 in
set_option maxRecDepth 100000 in
theorem hmall_law (w : World) (A : Option Addr) (n c : Nat) (l0 : List UInt8) (hR : Reads w (fun k => k < w.heap.size) A n (b8s l0)) (hnc : n ≤ c) (hcb : c ≤ 9223372036854775807) (B : Option Addr) (n' c' : Nat) (m0 : List UInt8) (hS : Reads w (fun k => k < w.heap.size) B n' (b8s m0)) (hnc' : n' ≤ c') (hC : SinC w) :
    Calls Tryd.prog 3 #[.slice A n c, .slice B n' c'] w fun en w' => en = .returned (.bool true) ∧ Below w.heap.size w w' := by
  obtain ⟨a, ha⟩ : ∃ l, l0.take 300 = l := ⟨_, rfl⟩
  obtain ⟨b, hb⟩ : ∃ l, m0.take 300 = l := ⟨_, rfl⟩
  have hlM := hmac_len a b
  obtain ⟨M, hM⟩ : ∃ M, hmacP a b = M := ⟨_, rfl⟩
  rw [hM] at hlM
  have heq : ∀ W : World, (Op.equalIn 10000 25 (v16 M) (v16 M)).run Tryd.prog W = .ok true W := fun W => by
    rw [eq16 W M M hlM hlM]
    simp
  obtain ⟨V, hV⟩ : ∃ V, v16 M = V := ⟨_, rfl⟩
  have hagg : ∃ C, V = .agg C := ⟨_, hV.symm⟩
  rw [hV] at heq
  obtain ⟨C, rfl⟩ := hagg
  have HEQ := Lib.hid heq
  have HM := Lib.hid hM
  have HV := Lib.hid hV
  have HA := Lib.hid ha
  have HB := Lib.hid hb
  have HR := Lib.hid hR
  have HS := Lib.hid hS
  have HC := Lib.hid hC
  clear heq hM hV ha hb hR hS hC hlM
  go_enter Tryd.func3, Tryd.ntmps3
  go_wp2_with fail
  refine (shown_calls w HC.out).mono ?_
  rintro en w1 ⟨rfl, hk⟩
  have HK1 := Lib.hid hk
  clear hk
  go_wp2_with fail
  refine (short_calls w1 _ A n c l0 (HR.out.kept0 HK1.out) hnc).mono ?_
  rintro en w1' ⟨m, rfl, rfl, hmc, hm6, hrd⟩
  rw [HA.out] at hrd
  have HRA := Lib.hid hrd
  clear hrd
  go_wp2_with fail
  refine (short_calls w1' _ B n' c' m0 (HS.out.kept0 HK1.out) hnc').mono ?_
  rintro en w2 ⟨m', rfl, rfl, hmc', hm6', hrd⟩
  rw [HB.out] at hrd
  have HRB := Lib.hid hrd
  clear hrd
  go_wp2_with fail
  have hs := hsum_calls w2 _ _ A m c a B m' c' b HRA.out (by omega) hmc hcb HRB.out (by omega) (HC.out.kept0 HK1.out)
  rw [HM.out, HV.out] at hs
  (with_reducible refine hs.mono ?_)
  rintro en w3 ⟨rfl, hk⟩
  have HK3 := Lib.hid (HK1.out.trans' hk)
  have HRA3 := Lib.hid (HRA.out.kept0 hk)
  have HRB3 := Lib.hid (HRB.out.kept0 hk)
  clear hs hk
  go_wp2_with fail
  have hs := refHmac_calls w3 _ _ A m c a B m' c' b HRA3.out (by omega) HRB3.out (by omega)
  rw [HM.out, HV.out] at hs
  (with_reducible refine hs.mono ?_)
  rintro en w4 ⟨rfl, hk⟩
  have HK4 := Lib.hid (HK3.out.trans' hk)
  have HRA4 := Lib.hid (HRA3.out.kept0 hk)
  have HRB4 := Lib.hid (HRB3.out.kept0 hk)
  have heq4 := HEQ.out w4
  clear hs hk
  go_wp2_with fail
  clear heq4
  (with_reducible refine (hhex_calls w4 _ _ A m c a B m' c' b HRA4.out (by omega) hmc hcb HRB4.out (by omega) (HC.out.kept0 HK4.out)).mono ?_)
  rintro en w5 ⟨rfl, hk⟩
  have HK5 := Lib.hid (HK4.out.trans' hk)
  have HRA5 := Lib.hid (HRA4.out.kept0 hk)
  have HRB5 := Lib.hid (HRB4.out.kept0 hk)
  clear hk
  go_wp2_with fail
  (with_reducible refine (refHhex_calls w5 _ _ A m c a B m' c' b HRA5.out (by omega) HRB5.out (by omega)).mono ?_)
  rintro en w6 ⟨rfl, hk⟩
  have HK6 := Lib.hid (HK5.out.trans' hk)
  have hxs := strB_beqI (hexL (hmacP a b))
  clear hk
  go_wp2_with fail
  go_ret
  exact ⟨rfl, HK6.out.below⟩
theorem hmacAll_walk (W : World) (a0 : Option Addr) (len0 cap0 : Nat) (z0 : List Int) (a1 : Option Addr) (len1 cap1 : Nat) (z1 : List Int) (w0 : IsRow .u8 W a0 len0 cap0 z0) (_y0 : len0 * 1 ≤ 140737488351232) (w1 : IsRow .u8 W a1 len1 cap1 z1) (_y1 : len1 * 1 ≤ 140737488351232) (hL : laidMetH Tryd.prog Rows.hmacAllRow.laid W) (_hsh : W.ShapedOpen Tryd.prog) :
    Calls Tryd.prog 3 #[.slice a0 len0 cap0, .slice a1 len1 cap1] W fun en w' => en = .returned (.bool true) ∧ Below W.heap.size W w' :=
  hmall_law W a0 len0 cap0 _ w0.bytes_.2.1 w0.bytes_.2.2 w0.cap_le a1 len1 cap1 _ w1.bytes_.2.1 w1.bytes_.2.2 (SinC.of_laid hL)
end Go.Proofs.YtadmebonmfhpgaaDoor
