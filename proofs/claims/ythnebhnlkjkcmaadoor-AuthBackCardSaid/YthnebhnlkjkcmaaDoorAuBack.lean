/- AuthBack's walk. -/
import Derived.Test.YthnebhnlkjkcmaaDoorCram
set_option linter.unusedVariables false
set_option linter.unusedSimpArgs false
namespace Go.Proofs.YthnebhnlkjkcmaaDoor
open Go.RowKit Go.Shelf Go.Lib

theorem ab_more (b : List UInt8) (x : UInt8) : takeF (put64 b ++ [x]) = none := by
  rcases h : takeF (put64 b ++ [x]) with _ | out
  · rfl
  · have h1 := congrArg List.length (takeF_put h)
    rw [List.length_append, put64_size _ out (Nat.le_refl _), put64_size _ b (Nat.le_refl _)] at h1
    simp at h1
    omega
set_option maxHeartbeats 8000000 in
set_option maxRecDepth 100000 in
theorem authBack_law (w : World) (u0 p0 s0 : List UInt8) (hu0 : u0.length ≤ 140737488351232) (hp0 : p0.length ≤ 140737488351232) (hs0 : s0.length ≤ 140737488351232) (hC : SinC w) :
    Calls Tryd.prog 5 #[.string (strB u0), .string (strB p0), .string (strB s0)] w fun en w' => en = .returned (.bool true) ∧ Below w.heap.size w w' := by
  have kb := fun (W : World) (s : ByteArray) => Lib.run_convert_string_bytes (P := Tryd.prog) W 9 27 5 s Tryd.underlying9 Tryd.underlying27 Tryd.underlying5
  have hh1 := fun W => short_calls W u0 hu0
  have hh2 := fun W => short_calls W p0 hp0
  have hh3 := fun W => short_calls W s0 hs0
  obtain ⟨u, hu⟩ : ∃ u, u0.take 200 = u := ⟨_, rfl⟩
  obtain ⟨p, hp⟩ : ∃ p, p0.take 200 = p := ⟨_, rfl⟩
  obtain ⟨s, hs⟩ : ∃ s, s0.take 200 = s := ⟨_, rfl⟩
  have hul : u.length ≤ 200 := by rw [← hu, List.length_take]; omega
  have hpl : p.length ≤ 200 := by rw [← hp, List.length_take]; omega
  have hsl : s.length ≤ 200 := by rw [← hs, List.length_take]; omega
  simp only [hu] at hh1
  simp only [hp] at hh2
  simp only [hs] at hh3
  have HH1 := Lib.hid hh1
  have HH2 := Lib.hid hh2
  have HH3 := Lib.hid hh3
  have HC := Lib.hid hC
  clear hu hp hs hh1 hh2 hh3 hu0 hp0 hs0 hC
  -- the texts
  obtain ⟨F, hF⟩ : ∃ F, 0 :: (u ++ 0 :: p) = F := ⟨_, rfl⟩
  have hFl : F.length ≤ 402 := by rw [← hF]; simp; omega
  obtain ⟨A1, hA1⟩ : ∃ A, put64 F = A := ⟨_, rfl⟩
  have a1l : A1.length ≤ 540 := by rw [← hA1, put64_size _ F (Nat.le_refl _)]; omega
  obtain ⟨B1, hB1⟩ : ∃ A, put64 u = A := ⟨_, rfl⟩
  have b1l : B1.length ≤ 540 := by rw [← hB1, put64_size _ u (Nat.le_refl _)]; omega
  obtain ⟨C1, hC1⟩ : ∃ A, put64 s = A := ⟨_, rfl⟩
  have c1l : C1.length ≤ 540 := by rw [← hC1, put64_size _ s (Nat.le_refl _)]; omega
  obtain ⟨G, hG⟩ : ∃ G, u ++ 32 :: hexL (hmacP p s) = G := ⟨_, rfl⟩
  have hGl : G.length = u.length + 33 := by rw [← hG, List.length_append, List.length_cons, hexL_len, hmac_len]
  obtain ⟨D1, hD1⟩ : ∃ A, put64 G = A := ⟨_, rfl⟩
  have d1l : D1.length ≤ 540 := by rw [← hD1, put64_size _ G (Nat.le_refl _)]; omega
  obtain ⟨n, hn⟩ : ∃ n, u.length = n := ⟨_, rfl⟩
  have hGt : G.take (n + 1) = u ++ [32] := by
    rw [← hG, ← hn, List.take_append, List.take_of_length_le (by omega), show u.length + 1 - u.length = 1 by omega]
    rfl
  obtain ⟨a, ha⟩ : ∃ B, strB A1 = B := ⟨_, rfl⟩
  obtain ⟨b, hb⟩ : ∃ B, strB B1 = B := ⟨_, rfl⟩
  obtain ⟨c, hc⟩ : ∃ B, strB C1 = B := ⟨_, rfl⟩
  obtain ⟨d, hd⟩ : ∃ B, strB D1 = B := ⟨_, rfl⟩
  have hcz : c.size ≤ 540 := by rw [← hc, strB_size]; exact c1l
  have hc33 : strB (C1 ++ [33]) = c ++ ⟨#[33]⟩ := by rw [← hc]; exact (au_app C1 [33]).symm
  have q1 := fun W => plainA_calls W u p (by omega) (by omega) (s := a) (by rw [hF, hA1, ha])
  have q2 := fun W => take_calls W A1 a ha (by omega)
  rw [show takeF A1 = some F from by rw [← hA1]; exact takeF_back F] at q2
  have q3 := fun W => loginA_calls W u (by omega) (s := b) (by rw [hB1, hb])
  have q4 := fun W => take_calls W B1 b hb (by omega)
  rw [show takeF B1 = some u from by rw [← hB1]; exact takeF_back u] at q4
  have q5 : ∀ W, Calls Tryd.prog 14 #[.slice (some ⟨W.heap.size, 0, none⟩) s.length (grownCap W s.length 0 5)] (Lib.bytesWorld W 5 (strB s)) fun en w' => en = .returned (.string c) ∧ Kept (Lib.bytesWorld W 5 (strB s)) w' NoB := by
    intro W
    have hrb := Reads.bytesW W 5 (strB s)
    rw [strB_size, strB_toList] at hrb
    exact put64_any (w1 := W) hrb (by omega) (grownCap_ge _ _ _ _) (by rw [hC1, hc])
  have q6 := fun W h => cram_calls W u p C1 (by omega) (by omega) (by omega) hc h
  have e6 : cramL u p C1 = some D1 := by unfold cramL; rw [← hC1, takeF_back]; simp only [Option.map_some]; rw [hG, hD1]
  simp only [e6, stR, hd] at q6
  have q7 := fun W => take_calls W D1 d hd (by omega)
  rw [show takeF D1 = some G from by rw [← hD1]; exact takeF_back G] at q7
  have q8 := fun W h => cram_calls W u p (C1 ++ [33]) (by omega) (by omega) (by simp; omega) hc33 h
  have e8 : cramL u p (C1 ++ [33]) = none := by unfold cramL; rw [← hC1, ab_more]; rfl
  simp only [e8, stR] at q8
  have Q1 := Lib.hid q1
  have Q2 := Lib.hid q2
  have Q3 := Lib.hid q3
  have Q4 := Lib.hid q4
  have Q5 := Lib.hid q5
  have Q6 := Lib.hid q6
  have Q7 := Lib.hid q7
  have Q8 := Lib.hid q8
  have k1 : (⟨#[0]⟩ : ByteArray) ++ strB u = strB (0 :: u) := au_app [0] u
  have k2 : strB (0 :: u) ++ (⟨#[0]⟩ : ByteArray) = strB ((0 :: u) ++ [0]) := au_app _ [0]
  have k3 : strB ((0 :: u) ++ [0]) ++ strB p = strB F := by rw [au_app, ← hF]; simp
  have k4 : strB u ++ (⟨#[32]⟩ : ByteArray) = strB (u ++ [32]) := au_app u [32]
  obtain ⟨Y1, hY1⟩ : ∃ Y, 0 :: u = Y := ⟨_, rfl⟩
  rw [hY1] at k1 k2 k3
  obtain ⟨Y2, hY2⟩ : ∃ Y, Y1 ++ [0] = Y := ⟨_, rfl⟩
  rw [hY2] at k2 k3
  obtain ⟨Y3, hY3⟩ : ∃ Y, u ++ [32] = Y := ⟨_, rfl⟩
  rw [hY3] at k4 hGt
  have y1 : Y1.length ≤ 300 := by rw [← hY1]; simp; omega
  have y2 : Y2.length ≤ 300 := by rw [← hY2, ← hY1]; simp; omega
  have HG1 := Lib.hid hGl
  have HG2 := Lib.hid hGt
  have HN := Lib.hid hn
  clear q1 q2 q3 q4 q5 q6 q7 q8 e6 e8 hF hA1 hB1 hC1 hG hD1 ha hb hc hd hc33 hY1 hY2 hY3 hGl hGt hn a1l b1l c1l d1l
  go_enter Tryd.func5, Tryd.ntmps5
  go_wp2_with fail
  refine (shown_calls w HC.out).mono ?_
  rintro en w1 ⟨rfl, hk⟩
  have HK1 := Lib.hid hk
  clear hk
  go_wp2_with fail
  refine (HH1.out _).mono ?_
  rintro en _ ⟨rfl, rfl⟩
  go_wp2_with fail
  refine (HH2.out _).mono ?_
  rintro en _ ⟨rfl, rfl⟩
  go_wp2_with fail
  refine (HH3.out _).mono ?_
  rintro en _ ⟨rfl, rfl⟩
  go_wp2_with fail
  refine (Q1.out _).mono ?_
  rintro en w2 ⟨rfl, hk⟩
  have HK2 := Lib.hid (HK1.out.trans' hk)
  clear hk
  go_wp2_with fail
  refine (Q2.out _).mono ?_
  rintro en w3 ⟨va, rfl, hva, hk⟩
  have HK3 := Lib.hid (HK2.out.trans' hk)
  simp only [Option.isSome_some, Option.getD_some] at hva ⊢
  obtain ⟨m1, hm1⟩ : ∃ m, F.length = m := ⟨_, rfl⟩
  obtain ⟨P1, c1, rfl, hc1, hr1⟩ := hva.readsN (n := m1) (by rw [b8s_length, hm1])
  have HR1 := Lib.hid hr1
  clear hk hva hr1
  go_wp2_with fail
  refine (Q3.out _).mono ?_
  rintro en w4 ⟨rfl, hk⟩
  have HK4 := Lib.hid (HK3.out.trans' hk)
  have HR14 := Lib.hid (HR1.out.kept0 hk)
  clear hk
  go_wp2_with fail
  refine (Q4.out _).mono ?_
  rintro en w5 ⟨vb, rfl, hvb, hk⟩
  have HK5 := Lib.hid (HK4.out.trans' hk)
  have HR15 := Lib.hid (HR14.out.kept0 hk)
  simp only [Option.isSome_some, Option.getD_some] at hvb ⊢
  obtain ⟨P2, c2, rfl, hc2, hr2⟩ := hvb.readsN (n := n) (by rw [b8s_length, HN.out])
  have HR25 := Lib.hid hr2
  clear hk hvb hr2
  go_wp2_with fail
  refine (Q5.out _).mono ?_
  rintro en w6 ⟨rfl, hk⟩
  have hz6 : Kept w5 w6 NoB := ((Kept.refl w5 NoB).bytesW _ _).trans' hk
  have HK6 := Lib.hid (HK5.out.trans' hz6)
  have HR16 := Lib.hid (HR15.out.kept0 hz6)
  have HR26 := Lib.hid (HR25.out.kept0 hz6)
  clear hk hz6
  go_wp2_with fail
  refine (Q6.out _ (HC.out.kept0 HK6.out)).mono ?_
  rintro en w7 ⟨rfl, hk⟩
  have HK7 := Lib.hid (HK6.out.trans' hk)
  have HR17 := Lib.hid (HR16.out.kept0 hk)
  have HR27 := Lib.hid (HR26.out.kept0 hk)
  clear hk
  go_wp2_with fail
  refine (Q7.out _).mono ?_
  rintro en w8 ⟨vd, rfl, hvd, hk⟩
  have HK8 := Lib.hid (HK7.out.trans' hk)
  have HR18 := Lib.hid (HR17.out.kept0 hk)
  have HR28 := Lib.hid (HR27.out.kept0 hk)
  simp only [Option.isSome_some, Option.getD_some] at hvd ⊢
  obtain ⟨P4, c4, rfl, hc4, hr4⟩ := hvd.readsN (n := n + 33) (by rw [b8s_length, HG1.out, HN.out])
  have HR48 := Lib.hid hr4
  clear hk hvd hr4
  go_wp2_with fail
  refine (Q5.out _).mono ?_
  rintro en w9 ⟨rfl, hk⟩
  have hz9 : Kept w8 w9 NoB := ((Kept.refl w8 NoB).bytesW _ _).trans' hk
  have HK9 := Lib.hid (HK8.out.trans' hz9)
  have HR19 := Lib.hid (HR18.out.kept0 hz9)
  have HR29 := Lib.hid (HR28.out.kept0 hz9)
  have HR49 := Lib.hid (HR48.out.kept0 hz9)
  clear hk hz9
  go_wp2_with fail
  refine (Q8.out _ (HC.out.kept0 HK9.out)).mono ?_
  rintro en w10 ⟨rfl, hk⟩
  have HK10 := Lib.hid (HK9.out.trans' hk)
  have hr1 := HR19.out.kept0 hk
  have hr2 := HR29.out.kept0 hk
  have hr4 := (HR49.out.kept0 hk).take (k := n + 1) (by omega)
  rw [b8s_take, HG2.out] at hr4
  have v1 := hr1.string 27 5 9 Tryd.underlying27 Tryd.underlying5 Tryd.underlying9 c1
  have v2 := hr2.string 27 5 9 Tryd.underlying27 Tryd.underlying5 Tryd.underlying9 c2
  have v4 := hr4.string 27 5 9 Tryd.underlying27 Tryd.underlying5 Tryd.underlying9 c4
  have hnl : n ≤ 200 := by have := HN.out; omega
  have hsz : (strB u).size = n := by rw [strB_size, HN.out]
  clear hk hr1 hr2 hr4 kb
  go_wp2_with fail
  go_ret
  exact ⟨rfl, HK10.out.below⟩
theorem authBack_walk (W : World) (a0 a1 a2 : ByteArray) (w0 : a0.size ≤ 140737488351232) (w1 : a1.size ≤ 140737488351232) (w2 : a2.size ≤ 140737488351232) (hL : laidMetH Tryd.prog Rows.authBackRow.laid W) (hsh : W.ShapedOpen Tryd.prog) :
    Calls Tryd.prog 5 #[.string a0, .string a1, .string a2] W fun en w' => en = .returned (.bool true) ∧ Below W.heap.size W w' := by
  have h := authBack_law W a0.data.toList a1.data.toList a2.data.toList (by rw [Array.length_toList]; exact w0) (by rw [Array.length_toList]; exact w1) (by rw [Array.length_toList]; exact w2) (SinC.of_laidL hL rfl rfl)
  rwa [strB_data, strB_data, strB_data] at h
end Go.Proofs.YthnebhnlkjkcmaaDoor
