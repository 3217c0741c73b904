/- AuthFirst's walk. (Printed by gen_auh.py.) -/
import Derived.Test.YthnebhnlkjkcmaaDoorAuH
import Derived.BigQuiet
set_option linter.unusedVariables false
set_option linter.unusedSimpArgs false
namespace Go.Proofs.YthnebhnlkjkcmaaDoor
open Go.RowKit Go.Shelf Go.Lib

set_option maxHeartbeats 4000000 in
set_option maxRecDepth 100000 in
theorem first_law (w : World) (s0 t0 : List UInt8) (hs0 : s0.length ≤ 140737488351232) (ht0 : t0.length ≤ 140737488351232) (hm : MaxI w) (hC : SinC w) :
    Calls Tryd.prog 4 #[.string (strB s0), .string (strB t0)] w fun en w' => en = .returned (.bool true) ∧ Below w.heap.size w w' := by
  have hsh1 := fun W => short_calls W s0 hs0
  have hsh2 := fun W => short_calls W t0 ht0
  obtain ⟨s, hs⟩ : ∃ s, s0.take 200 = s := ⟨_, rfl⟩
  obtain ⟨t, ht⟩ : ∃ t, t0.take 200 = t := ⟨_, rfl⟩
  have hsl : s.length ≤ 200 := by rw [← hs, List.length_take]; omega
  have htl : t.length ≤ 200 := by rw [← ht, List.length_take]; omega
  simp only [hs] at hsh1
  simp only [ht] at hsh2
  have hlen : (s ++ t).length ≤ 400 := by rw [List.length_append]; omega
  have e1 := au_app s t
  have hst1 := fun W h => stamp_calls W s (by omega) h
  have hst2 := fun W h => stamp_calls W (s ++ t) (by omega) h
  have hmore := @stampL_more s
  have hlen1 := @stampL_len s
  have hlen2 := @stampL_len (s ++ t)
  have hform := @stampL_some s
  have hshort := @stampL_short s
  have hshort2 := @stampL_short (s ++ t)
  obtain ⟨r1, hr1⟩ : ∃ r, stampL s = r := ⟨_, rfl⟩
  obtain ⟨r2, hr2⟩ : ∃ r, stampL (s ++ t) = r := ⟨_, rfl⟩
  simp only [hr1] at hst1 hmore hlen1 hform hshort
  simp only [hr2] at hst2 hlen2 hshort2
  have HMO : Hid (∀ x, r1 = some x → r2 = some x) := Lib.hid fun x h => by rw [← hr2]; exact hmore h t
  have HL2 := Lib.hid (fun x h => @hlen2 x h)
  have HF := Lib.hid (fun x h => @hform x h)
  have HSH : Hid (∀ x, r1 = some x → x.length ≤ 402) := Lib.hid fun x h => by have := hshort h; omega
  have HSH2 : Hid (∀ x, r2 = some x → x.length ≤ 402) := Lib.hid fun x h => by have := hshort2 h; omega
  have H1 := Lib.hid hsh1
  have H2 := Lib.hid hsh2
  have S1 := Lib.hid hst1
  have S2 := Lib.hid hst2
  have HM := Lib.hid hm
  have HC := Lib.hid hC
  clear hsh1 hsh2 hst1 hst2 hm hC hs ht hmore hlen1 hlen2 hform hshort hshort2 hr1 hr2 hs0 ht0
  go_enter Tryd.func4, Tryd.ntmps4
  go_wp2_with fail
  refine (shown_calls w HC.out).mono ?_
  rintro en w1 ⟨rfl, hk⟩
  have HK1 := Lib.hid hk
  clear hk
  go_wp2_with fail
  refine (H1.out _).mono ?_
  rintro en _ ⟨rfl, rfl⟩
  go_wp2_with fail
  refine (H2.out _).mono ?_
  rintro en _ ⟨rfl, rfl⟩
  go_wp2_with fail
  refine (S1.out _ (HM.out.kept0 HK1.out)).mono ?_
  rintro en w2 ⟨rfl, hk⟩
  have HK2 := Lib.hid (HK1.out.trans' hk)
  clear hk
  cases r1 with
  | some x =>
    have hr2 := HMO.out x rfl
    subst hr2
    obtain ⟨p, i, q, _, _, hi, hx⟩ := HF.out x rfl
    have h3 := HL2.out x rfl
    have h402 := HSH.out x rfl
    obtain ⟨X, hX⟩ : ∃ X, strB x = X := ⟨_, rfl⟩
    have hsz : X.size = x.length := by rw [← hX, strB_size]
    have b0 : ∀ h, (X[0]'h).toNat = 60 := fun h => by subst hX; rw [strB_getI]; subst hx; rfl
    have b1 : ∀ h, (X[x.length - 1]'h).toNat = 62 := fun h => by
      subst hX
      rw [strB_getI]
      subst hx
      have e : (60 :: (i ++ [62])).length - 1 = i.length + 1 := by simp
      simp only [e]
      rw [List.getElem_cons_succ, List.getElem_append_right (Nat.le_refl _)]
      simp
    have hq : (X == X) = true := (Go.MapKept.bytes_beq _ _).2 rfl
    rw [show stR (some x) = .tuple #[.string X, .bool true] by rw [← hX]; rfl] at S2 ⊢
    obtain ⟨n, hn⟩ : ∃ n, x.length = n := ⟨_, rfl⟩
    rw [hn] at hsz h3 b1 h402
    have z0 : (0 : Nat) < X.size := by omega
    have z1 : n - 1 < X.size := by omega
    have i0 := b0 z0
    have i1 := b1 z1
    have t3 : (3 : Int) ≤ (n : Int) := by omega
    have t0 : (0 : Int) < (n : Int) := by omega
    have t1 : (0 : Int) ≤ (n : Int) - 1 := by omega
    have t1' : (1 : Int) ≤ (n : Int) := by omega
    have t2 : (n : Int) - 1 < (n : Int) := by omega
    have k1 : ((n : Int) - 1).toNat = n - 1 := by omega
    have hn7 : n ≤ 9223372036854775807 ∨ True := .inr trivial
    clear hn7 b0 b1 hX hx hn hi
    go_wp2_with fail
    refine (S2.out _ (HM.out.kept0 HK2.out)).mono ?_
    rintro en w3 ⟨rfl, hk⟩
    have HK3 := Lib.hid (HK2.out.trans' hk)
    clear hk
    go_wp2_with fail
    go_ret
    exact ⟨rfl, HK3.out.below⟩
  | none =>
    rw [show stR none = .tuple #[.string (strB []), .bool false] from rfl]
    have hemp : (strB [] == (⟨#[]⟩ : ByteArray)) = true := by decide
    go_wp2_with fail
    refine (S2.out _ (HM.out.kept0 HK2.out)).mono ?_
    rintro en w3 ⟨rfl, hk⟩
    have HK3 := Lib.hid (HK2.out.trans' hk)
    clear hk
    cases r2 with
    | none =>
      rw [show stR none = .tuple #[.string (strB []), .bool false] from rfl]
      go_wp2_with fail
      go_ret
      exact ⟨rfl, HK3.out.below⟩
    | some y =>
      have h3 := HL2.out y rfl
      have h402 := HSH2.out y rfl
      have t3 : (3 : Int) ≤ (y.length : Int) := by omega
      rw [show stR (some y) = .tuple #[.string (strB y), .bool true] from rfl]
      go_wp2_with fail
      go_ret
      exact ⟨rfl, HK3.out.below⟩
theorem authFirst_walk (W : World) (a0 a1 : ByteArray) (w0 : a0.size ≤ 140737488351232) (w1 : a1.size ≤ 140737488351232) (hL : laidMetH Tryd.prog Rows.authFirstRow.laid W) (hsh : W.ShapedOpen Tryd.prog) :
    Calls Tryd.prog 4 #[.string a0, .string a1] W fun en w' => en = .returned (.bool true) ∧ Below W.heap.size W w' := by
  have h := first_law W a0.data.toList a1.data.toList (by rw [Array.length_toList]; exact w0) (by rw [Array.length_toList]; exact w1) (MaxI.of_shape hsh) (SinC.of_laidL hL rfl rfl)
  rwa [strB_data, strB_data] at h
end Go.Proofs.YthnebhnlkjkcmaaDoor
