/- HmacApart' walk. (Printed by gen_hmlaws.py.) -/
import Derived.Test.YtadmebonmfhpgaaDoorHmAll
import Derived.Deep.RegionHeld3
set_option linter.unusedVariables false
set_option linter.unusedSimpArgs false
namespace Go.Proofs.YtadmebonmfhpgaaDoor
open Go.RowKit Go.Shelf Go.Lib

theorem trod_array2_ {H : Type} {enc : TypeId × Value → H} {P : Program} {w : World} {base : Nat} {spare : Nat → Bool} {held : Bool} {t e : TypeId} {fuel : Nat} {c0 c1 : Value} {x : DataW H × List MemPlace} (ht : P.underlying t = some (.array 2 e)) (hce : P.cellsOf e = 1)
    (h : DataW.trod enc P w base spare held fuel t [c0, c1] = some x) :
    ∃ y0 y1 n, DataW.trod enc P w base spare held n e [c0] = some y0 ∧ DataW.trod enc P w base spare held n e [c1] = some y1 := by
  cases fuel with
  | zero => simp [DataW.trod] at h
  | succ n =>
    unfold DataW.trod at h
    rw [ht] at h
    have r2 : List.range 2 = [0, 1] := rfl
    simp [r2, hce] at h
    obtain ⟨_, h⟩ := h
    cases h0 : DataW.trod enc P w base spare held n e [c0] with
    | none => simp [h0] at h
    | some y0 =>
      cases h1 : DataW.trod enc P w base spare held n e [c1] with
      | none => simp [h0, h1] at h
      | some y1 => exact ⟨y0, y1, n, h0, h1⟩
theorem list2_ {α : Type} (l : List α) (h : (⟨l⟩ : Array α).size = 2) : ∃ a b, l = [a, b] := by
  match l, h with
  | [a, b], _ => exact ⟨a, b, rfl⟩
set_option maxHeartbeats 16000000 in
set_option maxRecDepth 100000 in
theorem hmapart_law (w : World) (A B X Y : Option Addr) (nA cA nB cB nX cX nY cY : Nat) (a0 b0 x0 y0 : List UInt8)
    (hA : Reads w (fun k => k < w.heap.size) A nA (b8s a0)) (hcA : nA ≤ cA) (kA : cA ≤ 9223372036854775807) (hB : Reads w (fun k => k < w.heap.size) B nB (b8s b0)) (hcB : nB ≤ cB) (kB : cB ≤ 9223372036854775807)
    (hX : Reads w (fun k => k < w.heap.size) X nX (b8s x0)) (hcX : nX ≤ cX) (hY : Reads w (fun k => k < w.heap.size) Y nY (b8s y0)) (hcY : nY ≤ cY) (hC : SinC w) :
    Calls Tryd.prog 6 #[.agg #[.slice A nA cA, .slice B nB cB], .agg #[.slice X nX cX, .slice Y nY cY]] w fun en w' => en = .returned (.bool true) ∧ Below w.heap.size w w' := by
  obtain ⟨a, ha⟩ : ∃ l, a0.take 300 = l := ⟨_, rfl⟩
  obtain ⟨b, hb⟩ : ∃ l, b0.take 300 = l := ⟨_, rfl⟩
  obtain ⟨x, hx⟩ : ∃ l, x0.take 300 = l := ⟨_, rfl⟩
  obtain ⟨y, hy⟩ : ∃ l, y0.take 300 = l := ⟨_, rfl⟩
  have hlax := hmac_len a x
  obtain ⟨Max, hMax⟩ : ∃ M, hmacP a x = M := ⟨_, rfl⟩
  rw [hMax] at hlax
  obtain ⟨cax, hcax⟩ : ∃ c, b8s Max = c := ⟨_, rfl⟩
  have HMax := Lib.hid hMax
  have HLax := Lib.hid hlax
  have HBax := Lib.hid hcax
  clear hlax hMax hcax
  have hlbx := hmac_len b x
  obtain ⟨Mbx, hMbx⟩ : ∃ M, hmacP b x = M := ⟨_, rfl⟩
  rw [hMbx] at hlbx
  obtain ⟨cbx, hcbx⟩ : ∃ c, b8s Mbx = c := ⟨_, rfl⟩
  have HMbx := Lib.hid hMbx
  have HLbx := Lib.hid hlbx
  have HBbx := Lib.hid hcbx
  clear hlbx hMbx hcbx
  have hlay := hmac_len a y
  obtain ⟨May, hMay⟩ : ∃ M, hmacP a y = M := ⟨_, rfl⟩
  rw [hMay] at hlay
  obtain ⟨cay, hcay⟩ : ∃ c, b8s May = c := ⟨_, rfl⟩
  have HMay := Lib.hid hMay
  have HLay := Lib.hid hlay
  have HBay := Lib.hid hcay
  clear hlay hMay hcay
  obtain ⟨b1, hb1⟩ : ∃ b, (Max == Mbx) = b := ⟨_, rfl⟩
  have HQ1 : Hid (∀ W : World, (Op.equalIn 10000 25 (.agg cax.toArray) (.agg cbx.toArray)).run Tryd.prog W = .ok b1 W) := Lib.hid fun W => by
    have := eq16 W Max Mbx HLax.out HLbx.out
    rw [hb1] at this
    rw [← HBax.out, ← HBbx.out]
    exact this
  clear hb1
  obtain ⟨b2, hb2⟩ : ∃ b, (Max == May) = b := ⟨_, rfl⟩
  have HQ2 : Hid (∀ W : World, (Op.equalIn 10000 25 (.agg cax.toArray) (.agg cay.toArray)).run Tryd.prog W = .ok b2 W) := Lib.hid fun W => by
    have := eq16 W Max May HLax.out HLay.out
    rw [hb2] at this
    rw [← HBax.out, ← HBay.out]
    exact this
  clear hb2
  have HEa := Lib.hid ha
  have HRA := Lib.hid hA
  have HEb := Lib.hid hb
  have HRB := Lib.hid hB
  have HEx := Lib.hid hx
  have HRX := Lib.hid hX
  have HEy := Lib.hid hy
  have HRY := Lib.hid hY
  have HC := Lib.hid hC
  clear ha hb hx hy hA hB hX hY hC
  go_enter Tryd.func6, Tryd.ntmps6
  go_wp2_with fail
  have HK0 := Lib.hid (((Kept.refl w NoB).alloc (.cells #[.slice A nA cA, .slice B nB cB] 32)).alloc (.cells #[.slice X nX cX, .slice Y nY cY] 32))
  have HG1 := Lib.hid ((Blk.new w 32 #[.slice A nA cA, .slice B nB cB]).alloc (.cells #[.slice X nX cX, .slice Y nY cY] 32))
  have hb0 := Blk.new (w.alloc (.cells #[.slice A nA cA, .slice B nB cB] 32)) 32 #[.slice X nX cX, .slice Y nY cY]
  rw [show (w.alloc (.cells #[.slice A nA cA, .slice B nB cB] 32)).heap.size = w.heap.size + 1 by simp] at hb0
  have HG2 := Lib.hid hb0
  clear hb0
  generalize (w.alloc (.cells #[.slice A nA cA, .slice B nB cB] 32)).alloc (.cells #[.slice X nX cX, .slice Y nY cY] 32) = W0 at *
  obtain ⟨g2, hg2⟩ : ∃ g, w.heap.size + 1 = g := ⟨_, rfl⟩
  rw [hg2] at HG2 ⊢
  clear hg2
  obtain ⟨g1, hg1⟩ : ∃ g, w.heap.size = g := ⟨_, rfl⟩
  have HGE := Lib.hid hg1
  rw [hg1] at HG1 ⊢
  clear hg1
  refine (shown_calls W0 (HC.out.kept0 HK0.out)).mono ?_
  rintro en w1 ⟨rfl, hk⟩
  have HK1 := Lib.hid (HK0.out.trans' hk)
  have cA0 : w1.cell? ⟨g1, 0, none⟩ = some (.slice A nA cA) := (HG1.out.kept0 hk).cell 0
  have cA1 : w1.cell? ⟨g1, 1, none⟩ = some (.slice B nB cB) := (HG1.out.kept0 hk).cell 1
  have cX0 : w1.cell? ⟨g2, 0, none⟩ = some (.slice X nX cX) := (HG2.out.kept0 hk).cell 0
  have cX1 : w1.cell? ⟨g2, 1, none⟩ = some (.slice Y nY cY) := (HG2.out.kept0 hk).cell 1
  clear hk HG1 HG2
  go_wp2_with fail
  refine (short_calls w1 _ A nA cA a0 (HRA.out.kept0 HK1.out) hcA).mono ?_
  rintro en w1' ⟨mA, rfl, hw1, hmA, hlA, hrd⟩
  obtain rfl := hw1.symm
  rw [HEa.out] at hrd
  have HDA := Lib.hid hrd
  clear hrd
  go_wp2_with fail
  refine (short_calls w1 _ B nB cB b0 (HRB.out.kept0 HK1.out) hcB).mono ?_
  rintro en w1' ⟨mB, rfl, hw1, hmB, hlB, hrd⟩
  obtain rfl := hw1.symm
  rw [HEb.out] at hrd
  have HDB := Lib.hid hrd
  clear hrd
  go_wp2_with fail
  refine (short_calls w1 _ X nX cX x0 (HRX.out.kept0 HK1.out) hcX).mono ?_
  rintro en w1' ⟨mX, rfl, hw1, hmX, hlX, hrd⟩
  obtain rfl := hw1.symm
  rw [HEx.out] at hrd
  have HDX := Lib.hid hrd
  clear hrd
  go_wp2_with fail
  refine (short_calls w1 _ Y nY cY y0 (HRY.out.kept0 HK1.out) hcY).mono ?_
  rintro en w1' ⟨mY, rfl, hw1, hmY, hlY, hrd⟩
  obtain rfl := hw1.symm
  rw [HEy.out] at hrd
  have HDY := Lib.hid hrd
  clear hrd
  have HSax : Hid (∀ W, Kept w1 W NoB → Calls Tryd.prog 9 #[.slice A mA cA, .slice X mX cX] W fun en w' => en = .returned (.agg cax.toArray) ∧ Kept W w' NoB) := Lib.hid fun W k => by
    have := hsum_calls W _ _ A mA cA a X mX cX x (HDA.out.kept0 k) (by omega) hmA kA (HDX.out.kept0 k) (by omega) (HC.out.kept0 (HK1.out.trans' k))
    rw [HMax.out] at this
    rw [← HBax.out]
    exact this
  have HFax : Hid (∀ W, Kept w1 W NoB → Calls Tryd.prog 10 #[.slice A mA cA, .slice X mX cX] W fun en w' => en = .returned (.agg cax.toArray) ∧ Kept W w' NoB) := Lib.hid fun W k => by
    have := refHmac_calls W _ _ A mA cA a X mX cX x (HDA.out.kept0 k) (by omega) (HDX.out.kept0 k) (by omega)
    rw [HMax.out] at this
    rw [← HBax.out]
    exact this
  have HSbx : Hid (∀ W, Kept w1 W NoB → Calls Tryd.prog 9 #[.slice B mB cB, .slice X mX cX] W fun en w' => en = .returned (.agg cbx.toArray) ∧ Kept W w' NoB) := Lib.hid fun W k => by
    have := hsum_calls W _ _ B mB cB b X mX cX x (HDB.out.kept0 k) (by omega) hmB kB (HDX.out.kept0 k) (by omega) (HC.out.kept0 (HK1.out.trans' k))
    rw [HMbx.out] at this
    rw [← HBbx.out]
    exact this
  have HFbx : Hid (∀ W, Kept w1 W NoB → Calls Tryd.prog 10 #[.slice B mB cB, .slice X mX cX] W fun en w' => en = .returned (.agg cbx.toArray) ∧ Kept W w' NoB) := Lib.hid fun W k => by
    have := refHmac_calls W _ _ B mB cB b X mX cX x (HDB.out.kept0 k) (by omega) (HDX.out.kept0 k) (by omega)
    rw [HMbx.out] at this
    rw [← HBbx.out]
    exact this
  have HSay : Hid (∀ W, Kept w1 W NoB → Calls Tryd.prog 9 #[.slice A mA cA, .slice Y mY cY] W fun en w' => en = .returned (.agg cay.toArray) ∧ Kept W w' NoB) := Lib.hid fun W k => by
    have := hsum_calls W _ _ A mA cA a Y mY cY y (HDA.out.kept0 k) (by omega) hmA kA (HDY.out.kept0 k) (by omega) (HC.out.kept0 (HK1.out.trans' k))
    rw [HMay.out] at this
    rw [← HBay.out]
    exact this
  have HFay : Hid (∀ W, Kept w1 W NoB → Calls Tryd.prog 10 #[.slice A mA cA, .slice Y mY cY] W fun en w' => en = .returned (.agg cay.toArray) ∧ Kept W w' NoB) := Lib.hid fun W k => by
    have := refHmac_calls W _ _ A mA cA a Y mY cY y (HDA.out.kept0 k) (by omega) (HDY.out.kept0 k) (by omega)
    rw [HMay.out] at this
    rw [← HBay.out]
    exact this
  go_wp2_with fail
  go_upto_region 6 with (fail)
  have kk0 : Kept w1 w1.drew NoB := (Kept.refl w1 NoB).drew
  have hq := HQ1.out
  go_region_held3 (fun w' => Kept w1 w' NoB) (first | exact kk0 | exact kk1 | exact kk2 | exact kk3 | exact kk4) (first
    | (go_at_call 9; (with_reducible refine (HSax.out _ kk0).mono ?_); rintro en w10 ⟨rfl, hk10⟩; have kk1 := kk0.trans' hk10)
    | (go_at_call 9; (with_reducible refine (HSbx.out _ kk1).mono ?_); rintro en w11 ⟨rfl, hk11⟩; have kk2 := kk1.trans' hk11)
    | (go_at_call 10; (with_reducible refine (HFax.out _ kk2).mono ?_); rintro en w12 ⟨rfl, hk12⟩; have kk3 := kk2.trans' hk12)
    | (go_at_call 10; (with_reducible refine (HFbx.out _ kk3).mono ?_); rintro en w13 ⟨rfl, hk13⟩; have kk4 := kk3.trans' hk13))
  have kp := kk4
  clear hq kk0 kk1 kk2 kk3 kk4 hk10 hk11 hk12 hk13
  go_wp2_with fail
  go_upto_region 7 with (fail)
  have kk0 : Kept w1 w13.drew NoB := kp.drew
  have hq := HQ2.out
  go_region_held3 (fun w' => Kept w1 w' NoB) (first | exact kk0 | exact kk1 | exact kk2 | exact kk3 | exact kk4) (first
    | (go_at_call 9; (with_reducible refine (HSax.out _ kk0).mono ?_); rintro en w20 ⟨rfl, hk20⟩; have kk1 := kk0.trans' hk20)
    | (go_at_call 9; (with_reducible refine (HSay.out _ kk1).mono ?_); rintro en w21 ⟨rfl, hk21⟩; have kk2 := kk1.trans' hk21)
    | (go_at_call 10; (with_reducible refine (HFax.out _ kk2).mono ?_); rintro en w22 ⟨rfl, hk22⟩; have kk3 := kk2.trans' hk22)
    | (go_at_call 10; (with_reducible refine (HFay.out _ kk3).mono ?_); rintro en w23 ⟨rfl, hk23⟩; have kk4 := kk3.trans' hk23))
  have kp := kk4
  clear hq kk0 kk1 kk2 kk3 kk4 hk20 hk21 hk22 hk23
  have hl32 : (hexL (hmacP a y)).length = 32 := by rw [hexL_len, hmac_len]
  obtain ⟨hx, hhx⟩ : ∃ h, hexL (hmacP a y) = h := ⟨_, rfl⟩
  have hs := hhex_calls w23 _ _ A mA cA a Y mY cY y (HDA.out.kept0 kp) (by omega) hmA kA (HDY.out.kept0 kp) (by omega) (HC.out.kept0 (HK1.out.trans' kp))
  rw [hhx] at hs hl32
  have h32 : ((hx.length : Int) == 32) = true := by rw [beq_iff_eq]; omega
  have HS := Lib.hid hs
  have KP := Lib.hid (HK1.out.trans' kp)
  clear hs hl32 hhx kp
  go_wp2_with fail
  (with_reducible refine HS.out.mono ?_)
  rintro en w30 ⟨rfl, hk⟩
  have HK30 := Lib.hid (KP.out.trans' hk)
  clear hk HS
  go_wp2_with fail
  go_ret
  exact ⟨rfl, HK30.out.below⟩
theorem hmacApart_walk (W : World) (a0_0 : Option Addr) (len0_0 cap0_0 : Nat) (z0_0 : List Int) (a0_1 : Option Addr) (len0_1 cap0_1 : Nat) (z0_1 : List Int) (a1_0 : Option Addr) (len1_0 cap1_0 : Nat) (z1_0 : List Int) (a1_1 : Option Addr) (len1_1 cap1_1 : Nat) (z1_1 : List Int)
    (w0_0 : IsRow .u8 W a0_0 len0_0 cap0_0 z0_0) (w0_1 : IsRow .u8 W a0_1 len0_1 cap0_1 z0_1) (w1_0 : IsRow .u8 W a1_0 len1_0 cap1_0 z1_0) (w1_1 : IsRow .u8 W a1_1 len1_1 cap1_1 z1_1) (hL : laidMetH Tryd.prog Rows.hmacApartRow.laid W) (_hsh : W.ShapedOpen Tryd.prog) :
    Calls Tryd.prog 6 #[.agg #[.slice a0_0 len0_0 cap0_0, .slice a0_1 len0_1 cap0_1], .agg #[.slice a1_0 len1_0 cap1_0, .slice a1_1 len1_1 cap1_1]] W fun en w' => en = .returned (.bool true) ∧ Below W.heap.size W w' :=
  hmapart_law W a0_0 a0_1 a1_0 a1_1 _ _ _ _ _ _ _ _ _ _ _ _ w0_0.bytes_.2.1 w0_0.bytes_.2.2 w0_0.cap_le w0_1.bytes_.2.1 w0_1.bytes_.2.2 w0_1.cap_le w1_0.bytes_.2.1 w1_0.bytes_.2.2 w1_1.bytes_.2.1 w1_1.bytes_.2.2 (SinC.of_laid hL)
end Go.Proofs.YtadmebonmfhpgaaDoor
