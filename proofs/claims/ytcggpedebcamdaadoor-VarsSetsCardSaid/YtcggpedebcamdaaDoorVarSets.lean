/- VarsSets's walk. (Printed by gen_varsets.py.) -/
import Derived.Test.YtcggpedebcamdaaDoorVarS
import Derived.Test.YtcggpedebcamdaaDoorRowW
set_option linter.unusedVariables false
set_option linter.unusedSimpArgs false
namespace Go.Proofs.YtcggpedebcamdaaDoor
open Go.RowKit Go.Shelf Go.Lib

theorem parts_xyx : partsL [36, 120, 36, 121, 36, 120] = some [([120], true), ([121], true), ([120], true)] := by decide
theorem expand_xyx (f : List UInt8 → Option (List UInt8)) (s : List UInt8) : expandL f (bareL s ++ [36, 120, 36, 121, 36, 120]) = (f [120]).bind fun x => (f [121]).map fun y => bareL s ++ x ++ y ++ x := by
  unfold expandL
  rw [partsL_plain _ _ (bare_no s), parts_xyx]
  simp only [Option.map_some, Option.bind_some]
  rw [textP_app, textP_ok (okP_plain f _), wroteP_plain]
  simp only [textP, Option.map_some, Option.bind_some]
  cases f [120] <;> cases f [121] <;> simp
theorem early_x (f : List UInt8 → Option (List UInt8)) (h : f [120] = none) : expandL f [36, 120] = none := by
  have : partsL [36, 120] = some [([120], true)] := by decide
  rw [expandL, this]
  simp [textP, h]
def SetS (w0 : World) (t : List UInt8) (gk : Nat) (v8 v9 : Value) (wr : World) : Prop :=
  ∃ i, i ≤ t.length ∧ i ≤ 100 ∧ gk = 101 - i ∧ v8 = .string (strB (bareL (t.take i))) ∧ v9 = .int .i64 (i : Int) ∧ wr = w0
set_option maxHeartbeats 8000000 in
set_option maxRecDepth 100000 in
theorem sets_law (w : World) (a0 b0 t : List UInt8) (htm : t.length ≤ 9223372036854775807) (hm : MaxI w) :
    Calls Tryd.prog 3 #[.string (strB a0), .string (strB b0), .string (strB t)] w fun en w' => en = .returned (.bool true) ∧ Kept w w' NoB := by
  go_enter Tryd.func3, Tryd.ntmps3
  go_wp2_with fail
  refine (shown_calls w hm).mono ?_
  rintro en w1 ⟨rfl, hk1⟩
  have HK1 := Lib.hid hk1
  clear hk1
  go_wp2_with fail
  obtain ⟨a, ha⟩ : ∃ s, a0.take 1100 = s := ⟨_, rfl⟩
  obtain ⟨b, hb⟩ : ∃ t, b0.take 1100 = t := ⟨_, rfl⟩
  have hal : a.length ≤ 1100 := by rw [← ha, List.length_take]; omega
  have hbl : b.length ≤ 1100 := by rw [← hb, List.length_take]; omega
  refine (short_calls w1 a0 1100 (by omega) 1100 rfl a ha).mono ?_
  rintro en w2 ⟨rfl, rfl⟩
  clear ha
  go_wp2_with fail
  refine (short_calls w2 b0 1100 (by omega) 1100 rfl b hb).mono ?_
  rintro en w3 ⟨rfl, rfl⟩
  clear hb
  go_wp2_with fail
  go_loopg [8, 9] 101 (fun gk v8 v9 wr => SetS w3 t gk v8 v9 wr)
  case atStart => exact ⟨0, Nat.zero_le _, Nat.zero_le _, rfl, rfl, rfl, rfl⟩
  case round =>
    obtain ⟨i, hi, hi100, hgk, rfl, rfl, rfl⟩ := hrel
    have HG := Lib.hid hgk
    clear hgk
    by_cases hgo : i < t.length ∧ i < 100
    · obtain ⟨hlt, h100⟩ := hgo
      have h2 := bare_snoc hlt
      have l2 := bare_len (t.take i)
      rw [List.length_take] at l2
      have he := strB_cut t i (i + 1)
      rw [show i + 1 - i = 1 by omega, take_one hlt] at he
      obtain ⟨B, hB⟩ : ∃ B, bareL (t.take i) = B := ⟨_, rfl⟩
      rw [hB] at h2 l2 ⊢
      have hbi : i < (strB t).size := by rw [strB_size]; exact hlt
      have hbi2 : i + 1 ≤ (strB t).size := by rw [strB_size]; omega
      have bl : B.length ≤ 100 := by omega
      have hg := strB_getI t i hbi
      obtain ⟨c, hc⟩ : ∃ c, t[i]'hlt = c := ⟨_, rfl⟩
      have hg' : (strB t)[i] = c := hg.trans hc
      simp only [hc] at h2 he
      have t1 : (i : Int) < (t.length : Int) := by omega
      have t2 : (i : Int) < 100 := by omega
      by_cases h36 : c = 36
      · subst h36
        rw [if_pos rfl] at h2
        have hx : ((strB t)[i]'(by rw [strB_size]; exact hlt)).toNat = 36 := by rw [hg']; rfl
        have H2 := Lib.hid h2
        clear h2 l2 hB hg hg' hc
        go_wp2_with fail
        go_roundg (101 - (i + 1))
        case measure => have := HG.out; omega
        case rel => exact ⟨i + 1, hlt, by omega, rfl, by rw [H2.out, List.append_nil], by go_num, rfl⟩
      · rw [if_neg h36] at h2
        have n36 : ((c.toNat : Int) == 36) = false := by
          rw [beq_eq_false_iff_ne]
          intro e
          exact h36 (UInt8.toNat_inj.1 (by have : c.toNat = 36 := by omega
                                           rw [this]; rfl))
        have n36' : ((c.toNat : Int) != 36) = true := by rw [bne, n36]; rfl
        have a2 := strB_app B [c]
        have H2 := Lib.hid h2
        clear h2 l2 hB h36 hc hg
        go_wp2_with fail
        go_roundg (101 - (i + 1))
        case measure => have := HG.out; omega
        case rel => exact ⟨i + 1, hlt, by omega, rfl, by rw [H2.out], by go_num, rfl⟩
    · have hl2 := bare_len (t.take i)
      rw [List.length_take] at hl2
      have hex := fun f => expand_xyx f (t.take i)
      have hbl2 : (bareL (t.take i)).length ≤ 100 := by omega
      obtain ⟨B, hB⟩ : ∃ B, bareL (t.take i) = B := ⟨_, rfl⟩
      rw [hB] at hbl2 ⊢
      simp only [hB] at hex
      have HEX := Lib.hid hex
      have a1 : strB B ++ (⟨#[36, 120, 36, 121]⟩ : ByteArray) = strB (B ++ [36, 120, 36, 121]) := strB_app B [36, 120, 36, 121]
      have a2 : strB (B ++ [36, 120, 36, 121]) ++ (⟨#[36, 120]⟩ : ByteArray) = strB (B ++ [36, 120, 36, 121, 36, 120]) := by
        rw [show (⟨#[36, 120]⟩ : ByteArray) = strB [36, 120] from rfl, strB_app]
        simp
      have hor : (¬ i < t.length) ∨ (i < t.length ∧ ¬ i < 100) := by omega
      clear hl2 hex hB hgo
      rcases hor with h1 | ⟨h1, h2⟩
      case' inl =>
        have t1 : ¬ (i : Int) < (t.length : Int) := by omega
        have t3 : decide ((i : Int) < (t.length : Int)) = false := decide_eq_false t1
      case' inr =>
        have t1 : (i : Int) < (t.length : Int) := by omega
        have t2 : ¬ (i : Int) < 100 := by omega
      all_goals
        go_wp2_with fail
        refine (new_calls wr).mono ?_
        rintro en w4 ⟨rfl, h4, hk4⟩
        have H4 := Lib.hid h4
        have HK4 := Lib.hid (HK1.out.trans' hk4)
        have hz4 := HK1.out.size
        clear h4 hk4
        go_wp2_with fail
        refine (expand_at w4 _ _ _ [36, 120] _ H4.out rfl (by simp) (by decide) (hm.kept0 HK4.out) none (early_x _ rfl)).mono ?_
        rintro en w5 ⟨rfl, hk5⟩
        have H5 := Lib.hid (H4.out.kept0 hk5)
        have HK5 := Lib.hid (HK4.out.trans' hk5)
        clear hk5
        simp only [Option.getD_none, Option.isSome_none]
        go_wp2_with fail
        by_cases la : 1000 < a.length
        · by_cases lb : 1000 < b.length
          · have e1 : setL [] [120] a = (71, []) := by unfold setL; rw [if_pos la]
            have e2 : setL [] [120] b = (71, []) := by unfold setL; rw [if_pos lb]
            have e3 : setL [] [121] [119] = (0, [([121], [119])]) := by decide
            have t8 : decide ((a.length : Int) ≤ 1000) = false := decide_eq_false (by omega)
            have t8' : ¬ (a.length : Int) ≤ 1000 := by omega
            have t9 : decide ((b.length : Int) ≤ 1000) = false := decide_eq_false (by omega)
            have t9' : ¬ (b.length : Int) ≤ 1000 := by omega
            have E1 := Lib.hid e1
            have E2 := Lib.hid e2
            have E3 := Lib.hid e3
            have hsm : ∀ x ∈ [(([121] : List UInt8), ([119] : List UInt8))], x.2.length ≤ 1000 := fun x hx => by
              simp at hx
              subst hx; simp
            have HSM := Lib.hid hsm
            clear e1 e2 e3 hsm
            refine (set_at w5 _ _ _ [120] a _ _ H5.out rfl rfl _ E1.out).mono ?_
            rintro en w6 ⟨rfl, h6, hk6, hs6⟩
            have H6 := Lib.hid h6
            have HK6 := Lib.hid (HK5.out.trans hk6 fun b hb => .inr (by omega))
            clear h6 hk6 hs6
            go_wp2_with fail
            refine (set_at w6 _ _ _ [120] b _ _ H6.out rfl rfl _ E2.out).mono ?_
            rintro en w7 ⟨rfl, h7, hk7, hs7⟩
            have H7 := Lib.hid h7
            have HK7 := Lib.hid (HK6.out.trans hk7 fun b hb => .inr (by omega))
            clear h7 hk7 hs7
            go_wp2_with fail
            refine (set_at w7 _ _ _ [121] [119] _ _ H7.out rfl rfl _ E3.out).mono ?_
            rintro en w8 ⟨rfl, h8, hk8, hs8⟩
            have H8 := Lib.hid h8
            have HK8 := Lib.hid (HK7.out.trans hk8 fun b hb => .inr (by omega))
            clear h8 hk8 hs8
            go_wp2_with fail
            refine (get_at w8 _ _ _ [120] _ H8.out rfl none (by rfl)).mono ?_
            rintro en w9 ⟨rfl, rfl⟩
            simp only [Option.getD_some, Option.isSome_some, Option.getD_none, Option.isSome_none]
            go_wp2_with fail
            refine (expand_at w9 _ _ _ (B ++ [36, 120, 36, 121, 36, 120]) _ H8.out rfl HSM.out (by rw [List.length_append]; simp; omega) (hm.kept0 HK8.out) none (by rw [HEX.out]; rfl)).mono ?_
            rintro en wa ⟨rfl, hka⟩
            have HKA := Lib.hid (HK8.out.trans' hka)
            clear hka
            simp only [Option.getD_some, Option.isSome_some, Option.getD_none, Option.isSome_none]
            go_wp2_with fail
            go_ret
            exact ⟨rfl, HKA.out⟩
          · have e1 : setL [] [120] a = (71, []) := by unfold setL; rw [if_pos la]
            have e2 : setL [] [120] b = (0, [([120], b)]) := by unfold setL; rw [if_neg lb, if_neg (by simp)]; rfl
            have e3 : setL [([120], b)] [121] [119] = (0, [([120], b), ([121], [119])]) := by unfold setL; rw [if_neg (by decide), if_neg (by simp)]; rfl
            have t8 : decide ((a.length : Int) ≤ 1000) = false := decide_eq_false (by omega)
            have t8' : ¬ (a.length : Int) ≤ 1000 := by omega
            have t9 : decide ((b.length : Int) ≤ 1000) = true := decide_eq_true (by omega)
            have t9' : (b.length : Int) ≤ 1000 := by omega
            have E1 := Lib.hid e1
            have E2 := Lib.hid e2
            have E3 := Lib.hid e3
            have hsm : ∀ x ∈ [(([120] : List UInt8), b), ([121], [119])], x.2.length ≤ 1000 := fun x hx => by
              simp at hx
              rcases hx with rfl | rfl
              · simp only; omega
              · simp
            have HSM := Lib.hid hsm
            clear e1 e2 e3 hsm
            refine (set_at w5 _ _ _ [120] a _ _ H5.out rfl rfl _ E1.out).mono ?_
            rintro en w6 ⟨rfl, h6, hk6, hs6⟩
            have H6 := Lib.hid h6
            have HK6 := Lib.hid (HK5.out.trans hk6 fun b hb => .inr (by omega))
            clear h6 hk6 hs6
            go_wp2_with fail
            refine (set_at w6 _ _ _ [120] b _ _ H6.out rfl rfl _ E2.out).mono ?_
            rintro en w7 ⟨rfl, h7, hk7, hs7⟩
            have H7 := Lib.hid h7
            have HK7 := Lib.hid (HK6.out.trans hk7 fun b hb => .inr (by omega))
            clear h7 hk7 hs7
            go_wp2_with fail
            refine (set_at w7 _ _ _ [121] [119] _ _ H7.out rfl rfl _ E3.out).mono ?_
            rintro en w8 ⟨rfl, h8, hk8, hs8⟩
            have H8 := Lib.hid h8
            have HK8 := Lib.hid (HK7.out.trans hk8 fun b hb => .inr (by omega))
            clear h8 hk8 hs8
            go_wp2_with fail
            refine (get_at w8 _ _ _ [120] _ H8.out rfl (some b) (by rfl)).mono ?_
            rintro en w9 ⟨rfl, rfl⟩
            simp only [Option.getD_some, Option.isSome_some, Option.getD_none, Option.isSome_none]
            have b1 : strB B ++ strB b = strB (B ++ b) := strB_app _ _
            have b2 : strB (B ++ b) ++ (⟨#[119]⟩ : ByteArray) = strB (B ++ (b ++ [119])) := (strB_app (B ++ b) [119]).trans (by simp)
            have b3 : strB (B ++ (b ++ [119])) ++ strB b = strB (B ++ (b ++ 119 :: b)) := (strB_app _ _).trans (by simp)
            go_wp2_with fail
            refine (expand_at w9 _ _ _ (B ++ [36, 120, 36, 121, 36, 120]) _ H8.out rfl HSM.out (by rw [List.length_append]; simp; omega) (hm.kept0 HK8.out) (some (B ++ (b ++ 119 :: b))) (by rw [HEX.out]; simp [findV])).mono ?_
            rintro en wa ⟨rfl, hka⟩
            have HKA := Lib.hid (HK8.out.trans' hka)
            clear hka
            simp only [Option.getD_some, Option.isSome_some, Option.getD_none, Option.isSome_none]
            go_wp2_with fail
            go_ret
            exact ⟨rfl, HKA.out⟩
        · by_cases lb : 1000 < b.length
          · have e1 : setL [] [120] a = (0, [([120], a)]) := by unfold setL; rw [if_neg la, if_neg (by simp)]; rfl
            have e2 : setL [([120], a)] [120] b = (71, [([120], a)]) := by unfold setL; rw [if_pos lb]
            have e3 : setL [([120], a)] [121] [119] = (0, [([120], a), ([121], [119])]) := by unfold setL; rw [if_neg (by decide), if_neg (by simp)]; rfl
            have t8 : decide ((a.length : Int) ≤ 1000) = true := decide_eq_true (by omega)
            have t8' : (a.length : Int) ≤ 1000 := by omega
            have t9 : decide ((b.length : Int) ≤ 1000) = false := decide_eq_false (by omega)
            have t9' : ¬ (b.length : Int) ≤ 1000 := by omega
            have E1 := Lib.hid e1
            have E2 := Lib.hid e2
            have E3 := Lib.hid e3
            have hsm : ∀ x ∈ [(([120] : List UInt8), a), ([121], [119])], x.2.length ≤ 1000 := fun x hx => by
              simp at hx
              rcases hx with rfl | rfl
              · simp only; omega
              · simp
            have HSM := Lib.hid hsm
            clear e1 e2 e3 hsm
            refine (set_at w5 _ _ _ [120] a _ _ H5.out rfl rfl _ E1.out).mono ?_
            rintro en w6 ⟨rfl, h6, hk6, hs6⟩
            have H6 := Lib.hid h6
            have HK6 := Lib.hid (HK5.out.trans hk6 fun b hb => .inr (by omega))
            clear h6 hk6 hs6
            go_wp2_with fail
            refine (set_at w6 _ _ _ [120] b _ _ H6.out rfl rfl _ E2.out).mono ?_
            rintro en w7 ⟨rfl, h7, hk7, hs7⟩
            have H7 := Lib.hid h7
            have HK7 := Lib.hid (HK6.out.trans hk7 fun b hb => .inr (by omega))
            clear h7 hk7 hs7
            go_wp2_with fail
            refine (set_at w7 _ _ _ [121] [119] _ _ H7.out rfl rfl _ E3.out).mono ?_
            rintro en w8 ⟨rfl, h8, hk8, hs8⟩
            have H8 := Lib.hid h8
            have HK8 := Lib.hid (HK7.out.trans hk8 fun b hb => .inr (by omega))
            clear h8 hk8 hs8
            go_wp2_with fail
            refine (get_at w8 _ _ _ [120] _ H8.out rfl (some a) (by rfl)).mono ?_
            rintro en w9 ⟨rfl, rfl⟩
            simp only [Option.getD_some, Option.isSome_some, Option.getD_none, Option.isSome_none]
            have b1 : strB B ++ strB a = strB (B ++ a) := strB_app _ _
            have b2 : strB (B ++ a) ++ (⟨#[119]⟩ : ByteArray) = strB (B ++ (a ++ [119])) := (strB_app (B ++ a) [119]).trans (by simp)
            have b3 : strB (B ++ (a ++ [119])) ++ strB a = strB (B ++ (a ++ 119 :: a)) := (strB_app _ _).trans (by simp)
            go_wp2_with fail
            refine (expand_at w9 _ _ _ (B ++ [36, 120, 36, 121, 36, 120]) _ H8.out rfl HSM.out (by rw [List.length_append]; simp; omega) (hm.kept0 HK8.out) (some (B ++ (a ++ 119 :: a))) (by rw [HEX.out]; simp [findV])).mono ?_
            rintro en wa ⟨rfl, hka⟩
            have HKA := Lib.hid (HK8.out.trans' hka)
            clear hka
            simp only [Option.getD_some, Option.isSome_some, Option.getD_none, Option.isSome_none]
            go_wp2_with fail
            go_ret
            exact ⟨rfl, HKA.out⟩
          · have e1 : setL [] [120] a = (0, [([120], a)]) := by unfold setL; rw [if_neg la, if_neg (by simp)]; rfl
            have e2 : setL [([120], a)] [120] b = (0, [([120], b)]) := by unfold setL; rw [if_neg lb, if_neg (by simp)]; rfl
            have e3 : setL [([120], b)] [121] [119] = (0, [([120], b), ([121], [119])]) := by unfold setL; rw [if_neg (by decide), if_neg (by simp)]; rfl
            have t8 : decide ((a.length : Int) ≤ 1000) = true := decide_eq_true (by omega)
            have t8' : (a.length : Int) ≤ 1000 := by omega
            have t9 : decide ((b.length : Int) ≤ 1000) = true := decide_eq_true (by omega)
            have t9' : (b.length : Int) ≤ 1000 := by omega
            have E1 := Lib.hid e1
            have E2 := Lib.hid e2
            have E3 := Lib.hid e3
            have hsm : ∀ x ∈ [(([120] : List UInt8), b), ([121], [119])], x.2.length ≤ 1000 := fun x hx => by
              simp at hx
              rcases hx with rfl | rfl
              · simp only; omega
              · simp
            have HSM := Lib.hid hsm
            clear e1 e2 e3 hsm
            refine (set_at w5 _ _ _ [120] a _ _ H5.out rfl rfl _ E1.out).mono ?_
            rintro en w6 ⟨rfl, h6, hk6, hs6⟩
            have H6 := Lib.hid h6
            have HK6 := Lib.hid (HK5.out.trans hk6 fun b hb => .inr (by omega))
            clear h6 hk6 hs6
            go_wp2_with fail
            refine (set_at w6 _ _ _ [120] b _ _ H6.out rfl rfl _ E2.out).mono ?_
            rintro en w7 ⟨rfl, h7, hk7, hs7⟩
            have H7 := Lib.hid h7
            have HK7 := Lib.hid (HK6.out.trans hk7 fun b hb => .inr (by omega))
            clear h7 hk7 hs7
            go_wp2_with fail
            refine (set_at w7 _ _ _ [121] [119] _ _ H7.out rfl rfl _ E3.out).mono ?_
            rintro en w8 ⟨rfl, h8, hk8, hs8⟩
            have H8 := Lib.hid h8
            have HK8 := Lib.hid (HK7.out.trans hk8 fun b hb => .inr (by omega))
            clear h8 hk8 hs8
            go_wp2_with fail
            refine (get_at w8 _ _ _ [120] _ H8.out rfl (some b) (by rfl)).mono ?_
            rintro en w9 ⟨rfl, rfl⟩
            simp only [Option.getD_some, Option.isSome_some, Option.getD_none, Option.isSome_none]
            have b1 : strB B ++ strB b = strB (B ++ b) := strB_app _ _
            have b2 : strB (B ++ b) ++ (⟨#[119]⟩ : ByteArray) = strB (B ++ (b ++ [119])) := (strB_app (B ++ b) [119]).trans (by simp)
            have b3 : strB (B ++ (b ++ [119])) ++ strB b = strB (B ++ (b ++ 119 :: b)) := (strB_app _ _).trans (by simp)
            go_wp2_with fail
            refine (expand_at w9 _ _ _ (B ++ [36, 120, 36, 121, 36, 120]) _ H8.out rfl HSM.out (by rw [List.length_append]; simp; omega) (hm.kept0 HK8.out) (some (B ++ (b ++ 119 :: b))) (by rw [HEX.out]; simp [findV])).mono ?_
            rintro en wa ⟨rfl, hka⟩
            have HKA := Lib.hid (HK8.out.trans' hka)
            clear hka
            simp only [Option.getD_some, Option.isSome_some, Option.getD_none, Option.isSome_none]
            go_wp2_with fail
            go_ret
            exact ⟨rfl, HKA.out⟩
theorem varsSets_walk (W : World) (a0 a1 a2 : ByteArray) (w0 : a0.size ≤ 140737488351232) (w1 : a1.size ≤ 140737488351232) (w2 : a2.size ≤ 140737488351232) (hsh : W.ShapedOpen Tryd.prog) :
    Calls Tryd.prog 3 #[.string a0, .string a1, .string a2] W fun en w' => en = .returned (.bool true) ∧ Below W.heap.size W w' := by
  obtain ⟨s, rfl, _⟩ := strB_of a0
  obtain ⟨t, rfl, _⟩ := strB_of a1
  obtain ⟨v, rfl, hv⟩ := strB_of a2
  exact (sets_law W s t v (by omega) (MaxI.of_shape hsh)).mono fun _ _ ⟨he, hk⟩ => ⟨he, hk.below⟩
end Go.Proofs.YtcggpedebcamdaaDoor
