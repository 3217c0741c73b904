/- CapsLines' walk. -/
import Derived.Test.YtgohpjjamciadaaDoorCapsB
import Derived.Test.YtgohpjjamciadaaDoorRowW
set_option linter.unusedVariables false
set_option linter.unusedSimpArgs false
namespace Go.Proofs.YtgohpjjamciadaaDoor
open Go.RowKit Go.Shelf

/-! ### Plain -/
theorem bare_13 {l : List UInt8} (h : ∀ x ∈ l, bareC x = true) : ∀ x ∈ l, x ≠ 13 := by
  intro x hx e
  have := h x hx
  rw [e] at this
  exact absurd this (by decide)
theorem lines_split {b c : List UInt8} (hb : ∀ x ∈ b, bareC x = true) (hc : ∀ x ∈ c, bareC x = true) : Lib.split (b ++ 13 :: 10 :: (c ++ [13, 10])) [13, 10] = [b, c, []] := by
  rw [split_free b _ (bare_13 hb), split_free c [] (bare_13 hc), split_nil (by simp)]
theorem lines_caps (b c : List UInt8) : capsL [b, c, []] = capsL [b, c] := by
  rw [capsL_cons, capsL_cons, capsL_cons, capsL_cons, capsL_cons, capOf_nil, capsL_nil]
  rfl
theorem lines_len (b c : List UInt8) : (capsL [b, c]).length = num1 b + num1 c := by
  rw [capsL_cons, capsL_cons, capsL_nil, List.append_nil, List.length_append, capOf_len, capOf_len]
theorem lines_len1 (b : List UInt8) : (capsL [b]).length = num1 b := by
  rw [capsL_cons, capsL_nil, List.append_nil, capOf_len]
theorem num1_len (b : List UInt8) : num1 b = if 0 < (wordsL b).length then 1 else 0 := by
  unfold num1
  cases wordsL b <;> simp

set_option maxHeartbeats 8000000 in
set_option maxRecDepth 100000 in
theorem lines_law (w : World) (s0 s1 s2 : List UInt8) (h0 : s0.length ≤ 140737488351232) (h1 : s1.length ≤ 140737488351232) (h2 : s2.length ≤ 140737488351232) (hm : MaxI w) :
    Calls Tryd.prog 5 #[.string (strB s0), .string (strB s1), .string (strB s2)] w fun en w' => en = .returned (.bool true) ∧ Kept w w' NoB := by
  have kc := fun (w : World) (s : ByteArray) => Lib.run_convert_string_bytes (P := Tryd.prog) w 9 23 5 s (u := .string) Tryd.underlying9 Tryd.underlying23 Tryd.underlying5
  go_enter Tryd.func5, Tryd.ntmps5
  go_wp2_with fail
  refine (shown_calls w hm).mono ?_
  rintro en w1 ⟨rfl, hk1⟩
  have HK1 := Lib.hid hk1
  clear hk1
  go_wp2_with fail
  refine (bare_calls w1 s0 h0).mono ?_
  rintro en w2 ⟨a, rfl, hal, _, hk2⟩
  have HK2 := Lib.hid (HK1.out.trans' hk2)
  clear hk2
  go_wp2_with fail
  refine (bare_calls w2 s1 h1).mono ?_
  rintro en w3 ⟨b, rfl, hbl, hb, hk3⟩
  have HK3 := Lib.hid (HK2.out.trans' hk3)
  have HB := Lib.hid hb
  clear hk3 hb
  go_wp2_with fail
  refine (bare_calls w3 s2 h2).mono ?_
  rintro en w4 ⟨c, rfl, hcl, hc, hk4⟩
  have HK4 := Lib.hid (HK3.out.trans' hk4)
  have HC := Lib.hid hc
  clear hk4 hc
  obtain ⟨body, hbody⟩ : ∃ body, b ++ 13 :: 10 :: (c ++ [13, 10]) = body := ⟨_, rfl⟩
  have hbodyl : body.length ≤ 404 := by rw [← hbody]; simp; omega
  have e1 : strB b ++ (⟨#[13, 10]⟩ : ByteArray) = strB (b ++ [13, 10]) := strB_append b [13, 10]
  have e2 : strB (b ++ [13, 10]) ++ strB c = strB (b ++ [13, 10] ++ c) := strB_append _ _
  have e3 : strB (b ++ 13 :: 10 :: c) ++ (⟨#[13, 10]⟩ : ByteArray) = strB body := by
    rw [← hbody]
    refine (strB_append (b ++ 13 :: 10 :: c) [13, 10]).trans ?_
    simp
  have HBODY := Lib.hid hbody
  clear hbody
  go_wp2_with fail
  obtain ⟨cap, hcap⟩ : ∃ cap, grownCap (w4.alloc (.cells #[.string (strB a), .string (strB b), .string (strB c)] 9)) body.length 0 5 = cap := ⟨_, rfl⟩
  have hcap2 : body.length ≤ cap := by rw [← hcap]; exact grownCap_ge _ _ _ _
  rw [hcap]
  obtain ⟨cells, hcells⟩ : ∃ cells : Array Value, #[.string (⟨#[]⟩ : ByteArray), .slice (some ⟨w4.heap.size, 0, none⟩) 3 3, .slice (some ⟨w4.heap.size + 1, 0, none⟩) body.length cap] = cells := ⟨_, rfl⟩
  have hR := (Reads.lit w4 9 (strs [a, b, c]) #[.string (strB a), .string (strB b), .string (strB c)] rfl (0, 0))
  have hRb := Reads.bytesW (w4.alloc (.cells #[.string (strB a), .string (strB b), .string (strB c)] 9)) 5 (strB body)
  have hKb : Kept (w4.alloc (.cells #[.string (strB a), .string (strB b), .string (strB c)] 9)) (Lib.bytesWorld (w4.alloc (.cells #[.string (strB a), .string (strB b), .string (strB c)] 9)) 5 (strB body)) NoB := (Kept.refl _ _).bytesW _ _
  rw [strB_size, strB_toList] at hRb
  obtain ⟨W5, hW5⟩ : ∃ W, (Lib.bytesWorld (w4.alloc (.cells #[.string (strB a), .string (strB b), .string (strB c)] 9)) 5 (strB body)).alloc (.cells cells 25) = W := ⟨_, rfl⟩
  have hsz : (Lib.bytesWorld (w4.alloc (.cells #[.string (strB a), .string (strB b), .string (strB c)] 9)) 5 (strB body)).heap.size = w4.heap.size + 2 := by rw [Lib.bytesWorld_size, World.size_alloc]
  have hB5 := Blk.new (Lib.bytesWorld (w4.alloc (.cells #[.string (strB a), .string (strB b), .string (strB c)] 9)) 5 (strB body)) 25 cells
  rw [hsz, hW5] at hB5
  have hK5 : Kept w4 W5 NoB := by rw [← hW5]; exact (((Kept.refl _ _).alloc _).trans' hKb).alloc _
  have hR5 := (hR.kept0 hKb).alloc (.cells cells 25)
  have hRb5 := hRb.alloc (.cells cells 25)
  rw [hW5] at hR5 hRb5
  rw [World.size_alloc] at hRb5
  have HK5 := Lib.hid (HK4.out.trans' hK5)
  have HR5 := Lib.hid hR5
  have HRb5 := Lib.hid hRb5
  have HB5 := Lib.hid hB5
  clear hcap hR hRb hKb hB5 hK5 hR5 hRb5
  rw [hcells, hW5, ← hcells]
  simp only [hsz]
  have HCE := Lib.hid hcells
  clear hcells hW5 hsz
  have hls : [a, b, c].length = 3 := rfl
  have LB := Lib.hid (lines_split HB.out HC.out)
  have hls2 : ∀ x ∈ [b, c], x.length ≤ 1099511627 := by
    intro x hx
    simp only [List.mem_cons, List.not_mem_nil, or_false] at hx
    rcases hx with rfl | rfl <;> omega
  have hls1 : ∀ x ∈ [b], x.length ≤ 1099511627 := by
    intro x hx
    rw [List.mem_singleton.1 hx]
    omega
  have hls3 : ∀ x ∈ [b, c, []], x.length ≤ 1099511627 := by
    intro x hx
    simp only [List.mem_cons, List.not_mem_nil, or_false] at hx
    rcases hx with rfl | rfl | rfl <;> first | omega | simp
  have hr5 : Reads W5 (fun k => k = w4.heap.size) (some ⟨w4.heap.size, 0, none⟩) 3 (strs [a, b, c]) := HR5.out
  have h5 := of_calls W5 1 (.string ⟨#[]⟩) _ _ _ _ 3 3 body.length cap [a, b, c] body hr5 (Nat.le_refl _) HRb5.out (by omega) (by decide) (hm.kept0 HK5.out) ⟨_, rfl⟩ [b, c] rfl (by simp) hls2
  rw [lines_len] at h5
  have HR5' := Lib.hid hr5
  have L1 := Lib.hid hls1
  have L2 := Lib.hid hls2
  have L3 := Lib.hid hls3
  clear hr5 hls1 hls2 hls3
  refine h5.mono ?_
  clear h5
  rintro en w6 ⟨D, e, rfl, he, hc6, hk6⟩
  have HC6 := Lib.hid hc6
  have HK6 := Lib.hid (HK5.out.trans' hk6)
  have HR6 := Lib.hid (HR5'.out.kept0 hk6)
  have HRb6 := Lib.hid (HRb5.out.kept0 hk6)
  have HB6 := Lib.hid (HB5.out.kept0 hk6)
  have c0 : w6.cell? ⟨w4.heap.size + 2, 0, none⟩ = some (.string ⟨#[]⟩) := by rw [HB6.out.cell, ← HCE.out]; rfl
  have c1 : w6.cell? ⟨w4.heap.size + 2, 1, none⟩ = some (.slice (some ⟨w4.heap.size, 0, none⟩) 3 3) := by rw [HB6.out.cell, ← HCE.out]; rfl
  have c2 : w6.cell? ⟨w4.heap.size + 2, 2, none⟩ = some (.slice (some ⟨w4.heap.size + 1, 0, none⟩) body.length cap) := by rw [HB6.out.cell, ← HCE.out]; rfl
  obtain ⟨n1, hn1⟩ : ∃ n, num1 b = n := ⟨_, rfl⟩
  obtain ⟨n2, hn2⟩ : ∃ n, num1 c = n := ⟨_, rfl⟩
  have N1 := Lib.hid hn1
  have N2 := Lib.hid hn2
  rw [hn1, hn2] at he HC6 ⊢
  clear hk6 hn1 hn2 hc6
  go_wp2_with fail
  have h6 := of_calls w6 3 (.string ⟨#[]⟩) _ _ _ _ 3 3 body.length cap [a, b, c] body HR6.out (Nat.le_refl _) HRb6.out (by omega) (by decide) (hm.kept0 HK6.out) ⟨_, rfl⟩ [b] rfl (by simp) L1.out
  rw [lines_len1, N1.out] at h6
  refine h6.mono ?_
  clear h6 c0 c1 c2
  rintro en w7 ⟨D3, e3_, rfl, he3, hc7, hk7⟩
  have HK7 := Lib.hid (HK6.out.trans' hk7)
  have HR7 := Lib.hid (HR6.out.kept0 hk7)
  have HRb7 := Lib.hid (HRb6.out.kept0 hk7)
  have HB7 := Lib.hid (HB6.out.kept0 hk7)
  have HC7 := Lib.hid (HC6.out.kept0 hk7)
  clear hk7
  have c0 : w7.cell? ⟨w4.heap.size + 2, 0, none⟩ = some (.string ⟨#[]⟩) := by rw [HB7.out.cell, ← HCE.out]; rfl
  have c1 : w7.cell? ⟨w4.heap.size + 2, 1, none⟩ = some (.slice (some ⟨w4.heap.size, 0, none⟩) 3 3) := by rw [HB7.out.cell, ← HCE.out]; rfl
  have c2 : w7.cell? ⟨w4.heap.size + 2, 2, none⟩ = some (.slice (some ⟨w4.heap.size + 1, 0, none⟩) body.length cap) := by rw [HB7.out.cell, ← HCE.out]; rfl
  clear hc7
  go_wp2_with fail
  have h7 := of_calls w7 2 (.string ⟨#[]⟩) _ _ _ _ 3 3 body.length cap [a, b, c] body HR7.out (Nat.le_refl _) HRb7.out (by omega) (by decide) (hm.kept0 HK7.out) ⟨_, rfl⟩ [b, c, []] (by rw [← LB.out, HBODY.out]; rfl) (by simp) L3.out
  rw [lines_caps, lines_len, N1.out, N2.out] at h7
  refine h7.mono ?_
  clear h7 c0 c1 c2
  rintro en w8 ⟨D2, e2_, rfl, he2, hd8, hk8⟩
  have HK8 := Lib.hid (HK7.out.trans' hk8)
  have HR8 := Lib.hid (HR7.out.kept0 hk8)
  have HRb8 := Lib.hid (HRb7.out.kept0 hk8)
  have HB8 := Lib.hid (HB7.out.kept0 hk8)
  have HC8 := Lib.hid (HC7.out.kept0 hk8)
  clear hk8
  have HD8 := Lib.hid hd8
  clear hd8
  go_wp2_with fail
  refine (refWords_calls w8 b (by omega)).mono ?_
  rintro en w9 ⟨vb, rfl, hrb, hk9⟩
  obtain ⟨kb, hkb⟩ : ∃ k, (wordsL b).length = k := ⟨_, rfl⟩
  obtain ⟨Ab, cb, rfl, _, _⟩ := hrb.readsN (n := kb) (by rw [strs_length]; exact hkb)
  have hn1 := num1_len b
  rw [N1.out, hkb] at hn1
  have HK9 := Lib.hid (HK8.out.trans' hk9)
  have HR9 := Lib.hid (HR8.out.kept0 hk9)
  have HRb9 := Lib.hid (HRb8.out.kept0 hk9)
  have HB9 := Lib.hid (HB8.out.kept0 hk9)
  have HC9 := Lib.hid (HC8.out.kept0 hk9)
  have HD9 := Lib.hid (HD8.out.kept0 hk9)
  clear hk9
  clear hrb hkb
  have hcb : (0 < kb ∧ n1 = 1) ∨ (kb = 0 ∧ n1 = 0) := by
    rw [hn1]
    split
    · exact .inl ⟨by assumption, rfl⟩
    · exact .inr ⟨by omega, rfl⟩
  clear hn1
  have hwl : ∀ x ∈ capsL [b, c], x.2.length ≤ 1099511627776 := fun x hx => Nat.le_trans (capsL_words _ _ L2.out x hx) (by decide)
  have HWL := Lib.hid hwl
  clear hwl
  rcases hcb with ⟨hkb, rfl⟩ | ⟨rfl, rfl⟩
  all_goals
    go_wp2_with fail
    refine (refWords_calls w9 c (by omega)).mono ?_
    rintro en w10 ⟨vc, rfl, hrc, hk10⟩
    obtain ⟨kc2, hkc⟩ : ∃ k, (wordsL c).length = k := ⟨_, rfl⟩
    obtain ⟨Ac, cc, rfl, _, _⟩ := hrc.readsN (n := kc2) (by rw [strs_length]; exact hkc)
    have hn2 := num1_len c
    rw [N2.out, hkc] at hn2
    have HK10 := Lib.hid (HK9.out.trans' hk10)
    have HR10 := Lib.hid (HR9.out.kept0 hk10)
    have HRb10 := Lib.hid (HRb9.out.kept0 hk10)
    have HB10 := Lib.hid (HB9.out.kept0 hk10)
    have HC10 := Lib.hid (HC9.out.kept0 hk10)
    have HD10 := Lib.hid (HD9.out.kept0 hk10)
    clear hk10
    clear hrc hkc
    have hcc : (0 < kc2 ∧ n2 = 1) ∨ (kc2 = 0 ∧ n2 = 0) := by
      rw [hn2]
      split
      · exact .inl ⟨by assumption, rfl⟩
      · exact .inr ⟨by omega, rfl⟩
    clear hn2
    rcases hcc with ⟨hkc, rfl⟩ | ⟨rfl, rfl⟩
    all_goals
      go_wp2_with fail
      refine (sameC_calls w10 _ _ D D2 _ e _ e2_ (capsL [b, c]) (capsL [b, c]) HC10.out HD10.out (by decide) (by decide) HWL.out HWL.out).mono ?_
      rw [decide_eq_true (rfl : capsL [b, c] = capsL [b, c])]
      rintro en w11 ⟨rfl, m11, hw11⟩
      have hk11 : Kept w10 w11 NoB := by rw [hw11]; exact (Kept.refl _ _).drewN _
      have HK11 := Lib.hid (HK10.out.trans' hk11)
      have HR11 := Lib.hid (HR10.out.kept0 hk11)
      have HRb11 := Lib.hid (HRb10.out.kept0 hk11)
      have HB11 := Lib.hid (HB10.out.kept0 hk11)
      clear hk11
      have c0 : w11.cell? ⟨w4.heap.size + 2, 0, none⟩ = some (.string ⟨#[]⟩) := by rw [HB11.out.cell, ← HCE.out]; rfl
      have c1 : w11.cell? ⟨w4.heap.size + 2, 1, none⟩ = some (.slice (some ⟨w4.heap.size, 0, none⟩) 3 3) := by rw [HB11.out.cell, ← HCE.out]; rfl
      have c2 : w11.cell? ⟨w4.heap.size + 2, 2, none⟩ = some (.slice (some ⟨w4.heap.size + 1, 0, none⟩) body.length cap) := by rw [HB11.out.cell, ← HCE.out]; rfl
      clear hw11
      go_wp2_with fail
      refine (of_calls w11 4 (.string ⟨#[]⟩) _ _ _ _ 3 3 body.length cap [a, b, c] body HR11.out (Nat.le_refl _) HRb11.out (by omega) (by decide) (hm.kept0 HK11.out) ⟨_, rfl⟩ [] rfl (by simp) (by simp)).mono ?_
      rw [show (capsL []).length = 0 from rfl]
      rintro en w12 ⟨D12, e12, rfl, _, _, hk12⟩
      have HK12 := Lib.hid (HK11.out.trans' hk12)
      clear hk12
      go_wp2_with fail
      refine (of_calls w12 1 (.string ⟨#[]⟩) NoB NoB none none 0 0 0 0 [] [] (Reads.nil _ _ _) (Nat.le_refl _) (Reads.nil _ _ _) (by simp) (by decide) (hm.kept0 HK12.out) ⟨_, rfl⟩ [] rfl (by simp) (by simp)).mono ?_
      rw [show (capsL []).length = 0 from rfl]
      rintro en w13 ⟨D13, e13, rfl, _, _, hk13⟩
      have HK13 := Lib.hid (HK12.out.trans' hk13)
      clear hk13
      go_wp2_with fail
      refine (ofNew_calls w13 3 [a, b] 2 _ rfl rfl (by decide) (hm.kept0 HK13.out) [] rfl (by simp) (by simp) 0 rfl).mono ?_
      rintro en w14 ⟨D14, e14, rfl, _, _, hk14⟩
      have HK14 := Lib.hid ((HK13.out.alloc _).trans' hk14)
      clear hk14
      go_wp2_with fail
      go_ret
      exact ⟨rfl, HK14.out⟩

theorem capsLines_walk (W : World) (a0 a1 a2 : ByteArray) (w0 : a0.size ≤ 140737488351232) (w1 : a1.size ≤ 140737488351232) (w2 : a2.size ≤ 140737488351232) (hsh : W.ShapedOpen Tryd.prog) :
    Calls Tryd.prog 5 #[.string a0, .string a1, .string a2] W fun en w' => en = .returned (.bool true) ∧ Below W.heap.size W w' := by
  obtain ⟨s, rfl, hs⟩ := strB_of a0
  obtain ⟨t, rfl, ht⟩ := strB_of a1
  obtain ⟨u, rfl, hu⟩ := strB_of a2
  exact (lines_law W s t u (by omega) (by omega) (by omega) (MaxI.of_shape hsh)).mono fun _ _ ⟨he, hk⟩ => ⟨he, hk.below⟩
end Go.Proofs.YtgohpjjamciadaaDoor
