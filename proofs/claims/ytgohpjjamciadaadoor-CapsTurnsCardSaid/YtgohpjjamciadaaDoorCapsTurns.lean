/- CapsTurns' walk. -/
import Derived.Test.YtgohpjjamciadaaDoorCapsB
import Derived.Test.YtgohpjjamciadaaDoorRowW
set_option linter.unusedVariables false
set_option linter.unusedSimpArgs false
namespace Go.Proofs.YtgohpjjamciadaaDoor
open Go.RowKit Go.Shelf

/-! ### Plain -/
theorem wordsG_tab : ∀ (l cur : List UInt8), wordsG cur (l ++ [9]) = wordsG cur l
  | [], cur => by
    show (if isBl 9 = true then flush cur ++ wordsG [] [] else wordsG (cur ++ [9]) []) = flush cur
    rw [if_pos (by decide)]
    show flush cur ++ flush [] = _
    simp [flush]
  | c :: l, cur => by
    rw [List.cons_append, wordsG, wordsG, wordsG_tab l [], wordsG_tab l (cur ++ [c])]
theorem words_lead (l : List UInt8) : wordsL (32 :: l) = wordsL l := by
  unfold wordsL
  rw [wordsG, if_pos (by decide)]
  rfl
theorem turns_cap (l : List UInt8) : capOf (32 :: (upL l ++ [9])) = capOf l := by
  have e : upL (32 :: (upL l ++ [9])) = 32 :: (upL l ++ [9]) := by
    show upC 32 :: upL (upL l ++ [9]) = _
    rw [upL_append, upL_up]
    rfl
  unfold capOf
  rw [e, words_lead]
  congr 1
  exact wordsG_tab (upL l) []
theorem turns_caps (l : List UInt8) : capsL [32 :: (upL l ++ [9])] = capsL [l] := by
  rw [capsL_cons, capsL_cons, turns_cap]
theorem turns_has (cs : List CapV) (l : List UInt8) : hasL cs (32 :: 32 :: upL l) = hasL cs l := by
  have e : upL (32 :: 32 :: upL l) = 32 :: 32 :: upL l := by
    show upC 32 :: upC 32 :: upL (upL l) = _
    rw [upL_up]
    rfl
  unfold hasL
  rw [e, words_lead, words_lead]
theorem turns_self (l : List UInt8) : hasL (capsL [l]) l = decide (0 < (capsL [l]).length) := by
  unfold hasL
  rw [capsL_cons, capsL_nil, List.append_nil]
  unfold capOf
  cases h : wordsL (upL l) with
  | nil => rfl
  | cons w ws => simp [headCap, hasW, hasC]

set_option maxHeartbeats 4000000 in
set_option maxRecDepth 100000 in
theorem turns_law (w : World) (s want : List UInt8) (hs : s.length ≤ 140737488351232) (ht : want.length ≤ 140737488351232) (hm : MaxI w) :
    Calls Tryd.prog 6 #[.string (strB s), .string (strB want)] w fun en w' => en = .returned (.bool true) ∧ Kept w w' NoB := by
  go_enter Tryd.func6, Tryd.ntmps6
  go_wp2_with fail
  refine (shown_calls w hm).mono ?_
  rintro en w1 ⟨rfl, hk1⟩
  have HK1 := Lib.hid hk1
  clear hk1
  go_wp2_with fail
  refine (bare_calls w1 s hs).mono ?_
  rintro en w2 ⟨b, rfl, hbl, _, hk2⟩
  have HK2 := Lib.hid (HK1.out.trans' hk2)
  clear hk2
  go_wp2_with fail
  refine (short_calls w2 want ht).mono ?_
  rintro en wx ⟨rfl, rfl⟩
  obtain ⟨t, hta⟩ : ∃ t, want.take 200 = t := ⟨_, rfl⟩
  have htl : t.length ≤ 200 := by rw [← hta, List.length_take]; omega
  rw [hta]
  obtain ⟨cs, hcs⟩ : ∃ cs, capsL [b] = cs := ⟨_, rfl⟩
  have hself := turns_self b
  have hsame := turns_caps b
  have hcw := capsL_words [b] 200 (by simpa using hbl)
  have hcl := capsL_len [b]
  rw [hcs] at hself hsame hcw hcl
  obtain ⟨k, hk⟩ : ∃ k, cs.length = k := ⟨_, rfl⟩
  rw [hk] at hself hcl
  have hk1 : k ≤ 1 := hcl
  have HCS := Lib.hid hcs
  have HSELF := Lib.hid hself
  have HSAME := Lib.hid hsame
  have HCW := Lib.hid (fun x hx => Nat.le_trans (hcw x hx) (by decide : 200 ≤ 1099511627776))
  have HKL := Lib.hid hk
  clear hta hcs hself hsame hcw hcl hk
  go_wp2_with fail
  refine (ofNew_calls _ 1 [[], b] 2 _ rfl rfl (by decide) (hm.kept0 HK2.out) [b] rfl (by simp) (by
    intro x hx
    rw [List.mem_singleton.1 hx]
    omega) k (by rw [HCS.out]; exact HKL.out)).mono ?_
  rw [HCS.out]
  rintro en w3 ⟨D, e, rfl, he, hc, hk3⟩
  have HK3 := Lib.hid ((HK2.out.alloc _).trans' hk3)
  have HC3 := Lib.hid hc
  clear hc hk3
  go_wp2_with fail
  refine (refUpper_calls w3 b (by omega)).mono ?_
  rintro en w4 ⟨rfl, hk4⟩
  have hul := upL_length b
  obtain ⟨u, hu⟩ : ∃ u, upL b = u := ⟨_, rfl⟩
  rw [hu] at hul HSAME ⊢
  have e1 : (⟨#[32]⟩ : ByteArray) ++ strB u = strB (32 :: u) := strB_append [32] u
  have e2 : strB (32 :: u) ++ (⟨#[9]⟩ : ByteArray) = strB (32 :: (u ++ [9])) := strB_append (32 :: u) [9]
  have t1 : ¬ (9223372036854775807 < u.length + 1) := by omega
  have t2 : ¬ (9223372036854775807 < u.length + 1 + 1) := by omega
  have HK4 := Lib.hid (HK3.out.trans' hk4)
  have HC4 := Lib.hid (HC3.out.kept0 hk4)
  have HU := Lib.hid hu
  clear hk4 hu
  go_wp2_with fail
  refine (ofNew_calls _ 1 [[], 32 :: (u ++ [9])] 2 _ rfl rfl (by decide) (hm.kept0 HK4.out) [32 :: (u ++ [9])] rfl (by simp) (by
    intro x hx
    rw [List.mem_singleton.1 hx]
    simp
    omega) k (by rw [HSAME.out]; exact HKL.out)).mono ?_
  rw [HSAME.out]
  rintro en w5 ⟨D2, e5, rfl, he5, hc5, hk5⟩
  have HK5 := Lib.hid ((HK4.out.alloc _).trans' hk5)
  have HC5 := Lib.hid ((HC4.out.kept0 ((Kept.refl _ _).alloc _)).kept0 hk5)
  have HD5 := Lib.hid hc5
  clear hc5 hk5
  go_wp2_with fail
  refine (sameC_calls w5 _ _ D D2 k e k e5 cs cs HC5.out HD5.out (by omega) (by omega) HCW.out HCW.out).mono ?_
  rw [decide_eq_true (rfl : cs = cs)]
  rintro en w6 ⟨rfl, m6, hw6⟩
  have hk6 : Kept w5 w6 NoB := by rw [hw6]; exact (Kept.refl _ _).drewN _
  have HK6 := Lib.hid (HK5.out.trans' hk6)
  have HC6 := Lib.hid (HC5.out.kept0 hk6)
  have HD6 := Lib.hid (HD5.out.kept0 hk6)
  obtain ⟨h, hh⟩ : ∃ h, hasL cs t = h := ⟨_, rfl⟩
  have HH := Lib.hid hh
  have HT := Lib.hid (turns_has cs t)
  clear hw6 hk6 hh
  go_wp2_with fail
  refine (has_calls w6 _ D k e cs t HC6.out (by omega) (by omega) (hm.kept0 HK6.out) HCW.out).mono ?_
  rw [HH.out]
  rintro en w7 ⟨rfl, hk7⟩
  have HK7 := Lib.hid (HK6.out.trans' hk7)
  have HC7 := Lib.hid (HC6.out.kept0 hk7)
  have HD7 := Lib.hid (HD6.out.kept0 hk7)
  clear hk7
  go_wp2_with fail
  refine (refUpper_calls w7 t (by omega)).mono ?_
  rintro en w8 ⟨rfl, hk8⟩
  have HK8 := Lib.hid (HK7.out.trans' hk8)
  have HC8 := Lib.hid (HC7.out.kept0 hk8)
  have HD8 := Lib.hid (HD7.out.kept0 hk8)
  have hvl := upL_length t
  obtain ⟨v, hv⟩ : ∃ v, upL t = v := ⟨_, rfl⟩
  rw [hv] at hvl HT ⊢
  have e3 : (⟨#[32, 32]⟩ : ByteArray) ++ strB v = strB (32 :: 32 :: v) := strB_append [32, 32] v
  clear hk8 hv
  go_wp2_with fail
  refine (has_calls w8 _ D2 k e5 cs (32 :: 32 :: v) HD8.out (by omega) (by simp; omega) (hm.kept0 HK8.out) HCW.out).mono ?_
  rw [HT.out, HH.out]
  rintro en w9 ⟨rfl, hk9⟩
  have HK9 := Lib.hid (HK8.out.trans' hk9)
  have HC9 := Lib.hid (HC8.out.kept0 hk9)
  clear hk9
  obtain ⟨g, hg⟩ : ∃ g, decide (0 < k) = g := ⟨_, rfl⟩
  have hg2 : decide (0 < (k : Int)) = g := by rw [← hg]; simp
  have HG := Lib.hid hg
  clear hg
  go_wp2_with fail
  refine (has_calls w9 _ D k e cs b HC9.out (by omega) (by omega) (hm.kept0 HK9.out) HCW.out).mono ?_
  rw [HSELF.out, HG.out]
  rintro en w10 ⟨rfl, hk10⟩
  have HK10 := Lib.hid (HK9.out.trans' hk10)
  clear hk10
  go_wp2_with fail
  go_ret
  refine ⟨?_, HK10.out⟩
  show Ending.returned (.bool (g == decide (0 < k))) = _
  rw [HG.out, beq_self_eq_true]

theorem capsTurns_walk (W : World) (a0 a1 : ByteArray) (w0 : a0.size ≤ 140737488351232) (w1 : a1.size ≤ 140737488351232) (hsh : W.ShapedOpen Tryd.prog) :
    Calls Tryd.prog 6 #[.string a0, .string a1] W fun en w' => en = .returned (.bool true) ∧ Below W.heap.size W w' := by
  obtain ⟨s, rfl, hs⟩ := strB_of a0
  obtain ⟨t, rfl, ht⟩ := strB_of a1
  exact (turns_law W s t (by omega) (by omega) (MaxI.of_shape hsh)).mono fun _ _ ⟨he, hk⟩ => ⟨he, hk.below⟩
end Go.Proofs.YtgohpjjamciadaaDoor
