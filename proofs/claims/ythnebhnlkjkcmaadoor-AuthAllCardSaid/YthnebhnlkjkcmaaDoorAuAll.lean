/- AuthAll's walk. -/
import Derived.Test.YthnebhnlkjkcmaaDoorAuR
import Derived.Test.YthnebhnlkjkcmaaDoorAuS
import Derived.Deep.RegionHeld3
set_option linter.unusedVariables false
set_option linter.unusedSimpArgs false
namespace Go.Proofs.YthnebhnlkjkcmaaDoor
open Go.RowKit Go.Shelf Go.Lib

theorem stR_two (r : Option (List UInt8)) : ∃ (a : ByteArray) (b : Bool), stR r = .tuple #[.string a, .bool b] := by
  cases r with
  | none => exact ⟨_, _, rfl⟩
  | some x => exact ⟨_, _, rfl⟩
set_option maxHeartbeats 8000000 in
set_option maxRecDepth 100000 in
theorem authAll_law (w : World) (u0 p0 s0 : List UInt8) (hu0 : u0.length ≤ 140737488351232) (hp0 : p0.length ≤ 140737488351232) (hs0 : s0.length ≤ 140737488351232) (hm : MaxI w) (hC : SinC w) :
    Calls Tryd.prog 6 #[.string (strB u0), .string (strB p0), .string (strB s0)] w fun en w' => en = .returned (.bool true) ∧ Below w.heap.size w w' := by
  have hh1 := fun W => short_calls W u0 hu0
  have hh2 := fun W => short_calls W p0 hp0
  have hh3 := fun W => short_calls W s0 hs0
  obtain ⟨u, hu⟩ : ∃ u, u0.take 200 = u := ⟨_, rfl⟩
  obtain ⟨p, hp⟩ : ∃ p, p0.take 200 = p := ⟨_, rfl⟩
  obtain ⟨s, hs⟩ : ∃ s, s0.take 200 = s := ⟨_, rfl⟩
  have hul : u.length ≤ 200 := by rw [← hu, List.length_take]; omega
  have hpl : p.length ≤ 200 := by rw [← hp, List.length_take]; omega
  have hsl : s.length ≤ 200 := by rw [← hs, List.length_take]; omega
  simp only [hu] at hh1
  simp only [hp] at hh2
  simp only [hs] at hh3
  have HH1 := Lib.hid hh1
  have HH2 := Lib.hid hh2
  have HH3 := Lib.hid hh3
  have HM := Lib.hid hm
  have HC := Lib.hid hC
  clear hu hp hs hh1 hh2 hh3 hu0 hp0 hs0 hC hm
  obtain ⟨ca, cb, hcr⟩ := stR_two (cramL u p s)
  obtain ⟨sa, sb, hsr⟩ := stR_two (stampL s)
  obtain ⟨PA, hPA⟩ : ∃ P, strB (put64 (0 :: (u ++ 0 :: p))) = P := ⟨_, rfl⟩
  obtain ⟨LA, hLA⟩ : ∃ P, strB (put64 u) = P := ⟨_, rfl⟩
  obtain ⟨AP, hAP⟩ : ∃ P, strB (hexL (md5P (s ++ p))) = P := ⟨_, rfl⟩
  have c1 := fun W h => cram_calls W u p s (by omega) (by omega) (by omega) rfl h
  have c2 := fun W => refCram_calls W u p s (by omega) (by omega) (by omega) rfl
  simp only [hcr] at c1 c2
  have d1 := fun W h => stamp_calls W s (by omega) h
  have d2 := fun W => refStamp_calls W s (by omega)
  simp only [hsr] at d1 d2
  have C1 := Lib.hid c1
  have C2 := Lib.hid c2
  have D1 := Lib.hid d1
  have D2 := Lib.hid d2
  have f1 : ∀ W, SinC W → Calls Tryd.prog 11 #[.string (strB u), .string (strB p)] W fun en w' => en = .returned (.string PA) ∧ Kept W w' NoB := fun W _ => plainA_calls W u p (by omega) (by omega) hPA
  have f2 : ∀ W, SinC W → Calls Tryd.prog 17 #[.string (strB u), .string (strB p)] W fun en w' => en = .returned (.string PA) ∧ Kept W w' NoB := fun W _ => hPA ▸ refPlainA_calls W u p (by omega) (by omega)
  have f3 : ∀ W, SinC W → Calls Tryd.prog 12 #[.string (strB u)] W fun en w' => en = .returned (.string LA) ∧ Kept W w' NoB := fun W _ => loginA_calls W u (by omega) hLA
  have f4 : ∀ W, SinC W → Calls Tryd.prog 18 #[.string (strB u)] W fun en w' => en = .returned (.string LA) ∧ Kept W w' NoB := fun W _ => hLA ▸ refLoginA_calls W u (by omega)
  have f5 : ∀ W, SinC W → Calls Tryd.prog 19 #[.string (strB s), .string (strB p)] W fun en w' => en = .returned (.string AP) ∧ Kept W w' NoB := fun W h => hAP ▸ apop_calls W s p (by omega) (by omega) h
  have f6 : ∀ W, SinC W → Calls Tryd.prog 20 #[.string (strB s), .string (strB p)] W fun en w' => en = .returned (.string AP) ∧ Kept W w' NoB := fun W _ => hAP ▸ refApop_calls W s p (by omega) (by omega)
  have F1 := Lib.hid f1
  have F2 := Lib.hid f2
  have F3 := Lib.hid f3
  have F4 := Lib.hid f4
  have F5 := Lib.hid f5
  have F6 := Lib.hid f6
  clear c1 c2 d1 d2 f1 f2 f3 f4 f5 f6 hcr hsr hPA hLA hAP
  go_enter Tryd.func6, Tryd.ntmps6
  go_wp2_with fail
  refine (shown_calls w HC.out).mono ?_
  rintro en w1 ⟨rfl, hk⟩
  have HK1 := Lib.hid hk
  clear hk
  go_wp2_with fail
  refine (HH1.out _).mono ?_
  rintro en _ ⟨rfl, rfl⟩
  go_wp2_with fail
  refine (HH2.out _).mono ?_
  rintro en _ ⟨rfl, rfl⟩
  go_wp2_with fail
  refine (HH3.out _).mono ?_
  rintro en _ ⟨rfl, rfl⟩
  go_wp2_with fail
  refine (C1.out _ (HC.out.kept0 HK1.out)).mono ?_
  rintro en w2 ⟨rfl, hk⟩
  have HK2 := Lib.hid (HK1.out.trans' hk)
  clear hk
  go_wp2_with fail
  refine (C2.out _).mono ?_
  rintro en w3 ⟨rfl, hk⟩
  have HK3 := Lib.hid (HK2.out.trans' hk)
  clear hk
  go_wp2_with fail
  refine (D1.out _ (HM.out.kept0 HK3.out)).mono ?_
  rintro en w4 ⟨rfl, hk⟩
  have HK4 := Lib.hid (HK3.out.trans' hk)
  clear hk
  go_wp2_with fail
  refine (D2.out _).mono ?_
  rintro en _ ⟨rfl, rfl⟩
  have g0 := HC.out.kept0 HK4.out
  have HC4 := Lib.hid g0
  clear g0 C1 C2 D1 D2 HH1 HH2 HH3
  cases cb <;> cases sb
  all_goals
    go_wp2_with fail
    refine (F1.out _ HC4.out).mono ?_
    rintro en w6 ⟨rfl, h1⟩
    have K1 := Lib.hid h1
    clear h1
    go_wp2_with fail
    refine (F2.out _ (HC4.out.kept0 K1.out)).mono ?_
    rintro en w7 ⟨rfl, h1⟩
    have K2 := Lib.hid (K1.out.trans' h1)
    clear h1
    go_wp2_with fail
    refine (F3.out _ (HC4.out.kept0 K2.out)).mono ?_
    rintro en w8 ⟨rfl, h1⟩
    have K3 := Lib.hid (K2.out.trans' h1)
    clear h1
    go_wp2_with fail
    refine (F4.out _ (HC4.out.kept0 K3.out)).mono ?_
    rintro en w9 ⟨rfl, h1⟩
    have K4 := Lib.hid (K3.out.trans' h1)
    clear h1
    go_wp2_with fail
    refine (F5.out _ (HC4.out.kept0 K4.out)).mono ?_
    rintro en w10 ⟨rfl, h1⟩
    have K5 := Lib.hid (K4.out.trans' h1)
    clear h1
    go_wp2_with fail
    refine (F6.out _ (HC4.out.kept0 K5.out)).mono ?_
    rintro en w11 ⟨rfl, h1⟩
    have K6 := Lib.hid (K5.out.trans' h1)
    clear h1
    go_wp2_with fail
    go_ret
    exact ⟨rfl, (HK4.out.trans' K6.out).below⟩
theorem authAll_walk (W : World) (a0 a1 a2 : ByteArray) (w0 : a0.size ≤ 140737488351232) (w1 : a1.size ≤ 140737488351232) (w2 : a2.size ≤ 140737488351232) (hL : laidMetH Tryd.prog Rows.authAllRow.laid W) (hsh : W.ShapedOpen Tryd.prog) :
    Calls Tryd.prog 6 #[.string a0, .string a1, .string a2] W fun en w' => en = .returned (.bool true) ∧ Below W.heap.size W w' := by
  have h := authAll_law W a0.data.toList a1.data.toList a2.data.toList (by rw [Array.length_toList]; exact w0) (by rw [Array.length_toList]; exact w1) (by rw [Array.length_toList]; exact w2) (MaxI.of_shape hsh) (SinC.of_laidL hL rfl rfl)
  rwa [strB_data, strB_data, strB_data] at h
end Go.Proofs.YthnebhnlkjkcmaaDoor
