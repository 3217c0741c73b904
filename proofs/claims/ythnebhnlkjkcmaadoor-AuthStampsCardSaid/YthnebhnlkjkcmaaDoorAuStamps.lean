/- AuthStamps' walk. (Printed by gen_aust.py.) -/
import Derived.Test.YthnebhnlkjkcmaaDoorAuH
import Derived.BigQuiet
set_option linter.unusedVariables false
set_option linter.unusedSimpArgs false
namespace Go.Proofs.YthnebhnlkjkcmaaDoor
open Go.RowKit Go.Shelf Go.Lib

def noM (c : UInt8) : Bool := decide (c.toNat ≠ 60) && decide (c.toNat ≠ 62)
def noE (c : UInt8) : Bool := decide (c.toNat ≠ 62)
theorem au_more (p : UInt8 → Bool) {s : List UInt8} {i : Nat} (h : i < s.length) : (s.take (i + 1)).filter p = (s.take i).filter p ++ (if p s[i] = true then [s[i]] else []) := by
  rw [List.take_succ_eq_append_getElem h, List.filter_append]
  congr 1
  by_cases hp : p s[i] = true
  · rw [if_pos hp, List.filter_cons_of_pos hp]; rfl
  · rw [if_neg hp, List.filter_cons_of_neg hp]; rfl
theorem au_one (s : List UInt8) (i : Nat) (h : i < s.length) : (strB s).extract i (i + 1) = strB [s[i]] := by
  rw [strB_cut, show i + 1 - i = 1 by omega, List.drop_eq_getElem_cons h]
  rfl
def AsS (w0 : World) (p : UInt8 → Bool) (s : List UInt8) (n gk : Nat) (v6 v7 : Value) (wr : World) : Prop :=
  ∃ i, i ≤ n ∧ gk = n - i ∧ v7 = .int .i64 (i : Int) ∧ v6 = .string (strB ((s.take i).filter p)) ∧ w0 = wr
theorem noM_60 (s : List UInt8) : 60 ∉ s.filter noM := fun h => by have := (List.mem_filter.1 h).2; simp [noM] at this
theorem noM_62 (s : List UInt8) : 62 ∉ s.filter noM := fun h => by have := (List.mem_filter.1 h).2; simp [noM] at this
theorem noE_62 (s : List UInt8) : 62 ∉ s.filter noE := fun h => by have := (List.mem_filter.1 h).2; simp [noE] at this
set_option maxHeartbeats 8000000 in
set_option maxRecDepth 100000 in
theorem stamps_law (w : World) (s0 t0 : List UInt8) (hs0 : s0.length ≤ 140737488351232) (ht0 : t0.length ≤ 140737488351232) (hm : MaxI w) (hC : SinC w) :
    Calls Tryd.prog 3 #[.string (strB s0), .string (strB t0)] w fun en w' => en = .returned (.bool true) ∧ Below w.heap.size w w' := by
  have hsh1 := fun W => short_calls W s0 hs0
  have hsh2 := fun W => short_calls W t0 ht0
  obtain ⟨s, hs⟩ : ∃ s, s0.take 200 = s := ⟨_, rfl⟩
  obtain ⟨t, ht⟩ : ∃ t, t0.take 200 = t := ⟨_, rfl⟩
  have hsl : s.length ≤ 200 := by rw [← hs, List.length_take]; omega
  have htl : t.length ≤ 200 := by rw [← ht, List.length_take]; omega
  simp only [hs] at hsh1
  simp only [ht] at hsh2
  have H1 := Lib.hid hsh1
  have H2 := Lib.hid hsh2
  have HM := Lib.hid hm
  have HC := Lib.hid hC
  clear hsh1 hsh2 hm hC hs ht hs0 ht0
  obtain ⟨n, hn⟩ : ∃ n, s.length = n := ⟨_, rfl⟩
  obtain ⟨n2, hn2⟩ : ∃ n, t.length = n := ⟨_, rfl⟩
  obtain ⟨BS, hBS⟩ : ∃ B, strB s = B := ⟨_, rfl⟩
  obtain ⟨BT, hBT⟩ : ∃ B, strB t = B := ⟨_, rfl⟩
  have hz1 : BS.size = n := by rw [← hBS, strB_size, hn]
  have hz2 : BT.size = n2 := by rw [← hBT, strB_size, hn2]
  have hg1 : ∀ j, (h : j < s.length) → ∀ h' : j < BS.size, (BS[j]'h').toNat = s[j].toNat := fun j h h' => by subst hBS; rw [strB_getI]
  have hg2 : ∀ j, (h : j < t.length) → ∀ h' : j < BT.size, (BT[j]'h').toNat = t[j].toNat := fun j h h' => by subst hBT; rw [strB_getI]
  have hc1 := au_one s
  have hc2 := au_one t
  rw [hBS] at hc1 H1
  rw [hBT] at hc2 H2
  have HN := Lib.hid hn
  have HN2 := Lib.hid hn2
  have HBS := Lib.hid hBS
  have G1 := Lib.hid hg1
  have G2 := Lib.hid hg2
  have C1 := Lib.hid hc1
  have C2 := Lib.hid hc2
  rw [hn] at hsl
  rw [hn2] at htl
  clear hn hn2 hBS hBT hg1 hg2 hc1 hc2
  go_enter Tryd.func3, Tryd.ntmps3
  go_wp2_with fail
  refine (shown_calls w HC.out).mono ?_
  rintro en w1 ⟨rfl, hk⟩
  have HK1 := Lib.hid hk
  clear hk
  go_wp2_with fail
  refine (H1.out _).mono ?_
  rintro en _ ⟨rfl, rfl⟩
  go_wp2_with fail
  refine (H2.out _).mono ?_
  rintro en _ ⟨rfl, rfl⟩
  go_wp2_with fail
  go_loopg [6, 7] n (fun gk va vb wr => AsS w1 noM s n gk va vb wr)
  case atStart => exact ⟨0, Nat.zero_le _, rfl, rfl, rfl, rfl⟩
  case round =>
    obtain ⟨i, hi, hgk, rfl, rfl, rfl⟩ := hrel
    have HG := Lib.hid hgk
    clear hgk
    rcases Nat.lt_or_ge i n with hlt | hge
    · have hil : i < s.length := by rw [HN.out]; exact hlt
      have y0 : i < BS.size := by rw [hz1]; exact hlt
      have ti : (i : Int) < (n : Int) := by omega
      have tc : ((i : Int) + 1).toNat = i + 1 := by omega
      have hmore := au_more noM hil
      have hfl : ((s.take i).filter noM).length ≤ 200 := Nat.le_trans (List.length_filter_le _ _) (by rw [List.length_take]; omega)
      have hct := C1.out i hil
      obtain ⟨x, hx⟩ : ∃ x : Nat, s[i].toNat = x := ⟨_, rfl⟩
      have i0 : (BS[i]'y0).toNat = x := (G1.out i hil y0).trans hx
      have hp : noM s[i] = (decide (x ≠ 60) && decide (x ≠ 62)) := by simp only [noM]; rw [hx]
      rw [hp] at hmore
      obtain ⟨F, hF⟩ : ∃ F, ((s.take i).filter noM) = F := ⟨_, rfl⟩
      rw [hF] at hfl hmore ⊢
      obtain ⟨y, hy⟩ : ∃ y, s[i] = y := ⟨_, rfl⟩
      rw [hy] at hct hmore
      have e2 := au_app F [y]
      clear hx hp hF hy hil
      by_cases h60 : x = 60
      · skip
        have q60 : ((x : Int) == 60) = true := by rw [beq_iff_eq]; omega
        have q60' : ((x : Int) != 60) = false := by rw [bne, q60]; rfl
        have HMO : Hid ((s.take (i + 1)).filter noM = F) := Lib.hid (by rw [hmore]; simp_all)
        clear hmore
        go_wp2_with fail
        go_roundg (n - (i + 1))
        case measure => have := HG.out; omega
        case rel => exact ⟨i + 1, hlt, rfl, by go_num, by rw [HMO.out], rfl⟩
      · by_cases h62 : x = 62
        · skip
          have q60 : ((x : Int) == 60) = false := by rw [beq_eq_false_iff_ne]; omega
          have q60' : ((x : Int) != 60) = true := by rw [bne, q60]; rfl
          have q62 : ((x : Int) == 62) = true := by rw [beq_iff_eq]; omega
          have q62' : ((x : Int) != 62) = false := by rw [bne, q62]; rfl
          have HMO : Hid ((s.take (i + 1)).filter noM = F) := Lib.hid (by rw [hmore]; simp_all)
          clear hmore
          go_wp2_with fail
          go_roundg (n - (i + 1))
          case measure => have := HG.out; omega
          case rel => exact ⟨i + 1, hlt, rfl, by go_num, by rw [HMO.out], rfl⟩
        · skip
          have q60 : ((x : Int) == 60) = false := by rw [beq_eq_false_iff_ne]; omega
          have q60' : ((x : Int) != 60) = true := by rw [bne, q60]; rfl
          have q62 : ((x : Int) == 62) = false := by rw [beq_eq_false_iff_ne]; omega
          have q62' : ((x : Int) != 62) = true := by rw [bne, q62]; rfl
          have HMO : Hid ((s.take (i + 1)).filter noM = F ++ [y]) := Lib.hid (by rw [hmore]; simp_all)
          clear hmore
          go_wp2_with fail
          go_roundg (n - (i + 1))
          case measure => have := HG.out; omega
          case rel => exact ⟨i + 1, hlt, rfl, by go_num, by rw [HMO.out], rfl⟩
    · obtain rfl : i = n := by omega
      have ti : ¬ (i : Int) < (i : Int) := by omega
      rw [show s.take i = s from List.take_of_length_le (by rw [HN.out]; exact Nat.le_refl _)]
      have hb60 := noM_60 s
      have hb62 := noM_62 s
      have hbl : (s.filter noM).length ≤ 200 := Nat.le_trans (List.length_filter_le _ _) (by rw [HN.out]; exact hsl)
      obtain ⟨b, hb⟩ : ∃ b, s.filter noM = b := ⟨_, rfl⟩
      rw [hb] at hb60 hb62 hbl ⊢
      have HB60 := Lib.hid hb60
      have HB62 := Lib.hid hb62
      clear hb hb60 hb62 HG C1 G1
      go_wp2_with fail
      go_loopg [8, 9] n2 (fun gk va vb wr => AsS w1 noE t n2 gk va vb wr)
      case atStart => exact ⟨0, Nat.zero_le _, rfl, rfl, rfl, rfl⟩
      case round =>
        obtain ⟨i, hi, hgk, rfl, rfl, rfl⟩ := hrel
        have HG := Lib.hid hgk
        clear hgk
        rcases Nat.lt_or_ge i n2 with hlt | hge
        · have hil : i < t.length := by rw [HN2.out]; exact hlt
          have y0 : i < BT.size := by rw [hz2]; exact hlt
          have ti : (i : Int) < (n2 : Int) := by omega
          have tc : ((i : Int) + 1).toNat = i + 1 := by omega
          have hmore := au_more noE hil
          have hfl : ((t.take i).filter noE).length ≤ 200 := Nat.le_trans (List.length_filter_le _ _) (by rw [List.length_take]; omega)
          have hct := C2.out i hil
          obtain ⟨x, hx⟩ : ∃ x : Nat, t[i].toNat = x := ⟨_, rfl⟩
          have i0 : (BT[i]'y0).toNat = x := (G2.out i hil y0).trans hx
          have hp : noE t[i] = decide (x ≠ 62) := by simp only [noE]; rw [hx]
          rw [hp] at hmore
          obtain ⟨F, hF⟩ : ∃ F, ((t.take i).filter noE) = F := ⟨_, rfl⟩
          rw [hF] at hfl hmore ⊢
          obtain ⟨y, hy⟩ : ∃ y, t[i] = y := ⟨_, rfl⟩
          rw [hy] at hct hmore
          have e2 := au_app F [y]
          clear hx hp hF hy hil
          by_cases h62 : x = 62
          · skip
            have q62 : ((x : Int) == 62) = true := by rw [beq_iff_eq]; omega
            have q62' : ((x : Int) != 62) = false := by rw [bne, q62]; rfl
            have HMO : Hid ((t.take (i + 1)).filter noE = F) := Lib.hid (by rw [hmore]; simp_all)
            clear hmore
            go_wp2_with fail
            go_roundg (n2 - (i + 1))
            case measure => have := HG.out; omega
            case rel => exact ⟨i + 1, hlt, rfl, by go_num, by rw [HMO.out], rfl⟩
          · skip
            have q62 : ((x : Int) == 62) = false := by rw [beq_eq_false_iff_ne]; omega
            have q62' : ((x : Int) != 62) = true := by rw [bne, q62]; rfl
            have HMO : Hid ((t.take (i + 1)).filter noE = F ++ [y]) := Lib.hid (by rw [hmore]; simp_all)
            clear hmore
            go_wp2_with fail
            go_roundg (n2 - (i + 1))
            case measure => have := HG.out; omega
            case rel => exact ⟨i + 1, hlt, rfl, by go_num, by rw [HMO.out], rfl⟩
        · obtain rfl : i = n2 := by omega
          have ti : ¬ (i : Int) < (i : Int) := by omega
          rw [show t.take i = t from List.take_of_length_le (by rw [HN2.out]; exact Nat.le_refl _)]
          have he62 := noE_62 t
          have hel : (t.filter noE).length ≤ 200 := Nat.le_trans (List.length_filter_le _ _) (by rw [HN2.out]; exact htl)
          obtain ⟨e, he⟩ : ∃ e, t.filter noE = e := ⟨_, rfl⟩
          rw [he] at he62 hel ⊢
          have hmade := stampL_made (s := s) HB60.out he62
          have hnone : stampL ((b ++ [62]) ++ b) = none := stampL_none (by simp [HB60.out])
          have hopen := stampL_open HB60.out he62
          have k1 := au_app b [60]
          have k2 := au_app (b ++ [60]) e
          have k3 := au_app ((b ++ [60]) ++ e) [62]
          have k4 : strB (((b ++ [60]) ++ e) ++ [62]) ++ BS = strB (b ++ 60 :: (e ++ 62 :: s)) := by rw [← HBS.out, au_app]; simp
          have k5 := au_app b [62]
          have k6 := au_app (b ++ [62]) b
          have k7 : strB ((b ++ [60]) ++ e) = strB (b ++ 60 :: e) := by simp
          have l1 : (b ++ [60]).length ≤ 201 := by simp; omega
          have l2 : ((b ++ [60]) ++ e).length ≤ 401 := by simp; omega
          have l3 : (((b ++ [60]) ++ e) ++ [62]).length ≤ 402 := by simp; omega
          have l4 : (b ++ 60 :: (e ++ 62 :: s)).length ≤ 602 := by simp; rw [HN.out]; omega
          have l5 : (b ++ [62]).length ≤ 201 := by simp; omega
          have l6 : ((b ++ [62]) ++ b).length ≤ 401 := by simp; omega
          have l7 : (b ++ 60 :: e).length ≤ 401 := by simp; omega
          have k8 : (⟨#[60]⟩ : ByteArray) ++ strB e = strB (60 :: e) := au_app [60] e
          have k9 : strB (60 :: e) ++ (⟨#[62]⟩ : ByteArray) = strB (60 :: (e ++ [62])) := au_app (60 :: e) [62]
          have l8 : (60 :: e).length ≤ 201 := by simp; omega
          obtain ⟨X1, hX1⟩ : ∃ X, b ++ [60] = X := ⟨_, rfl⟩
          rw [hX1] at k1 k2 k3 k4 k7 l1 l2 l3
          obtain ⟨X2, hX2⟩ : ∃ X, X1 ++ e = X := ⟨_, rfl⟩
          rw [hX2] at k2 k3 k4 k7 l2 l3
          obtain ⟨X3, hX3⟩ : ∃ X, X2 ++ [62] = X := ⟨_, rfl⟩
          rw [hX3] at k3 k4 l3
          obtain ⟨X4, hX4⟩ : ∃ X, b ++ 60 :: (e ++ 62 :: s) = X := ⟨_, rfl⟩
          rw [hX4] at k4 l4 hmade
          obtain ⟨X5, hX5⟩ : ∃ X, b ++ [62] = X := ⟨_, rfl⟩
          rw [hX5] at k5 k6 l5 l6 hnone
          obtain ⟨X6, hX6⟩ : ∃ X, X5 ++ b = X := ⟨_, rfl⟩
          rw [hX6] at k6 l6 hnone
          obtain ⟨X7, hX7⟩ : ∃ X, b ++ 60 :: e = X := ⟨_, rfl⟩
          rw [hX7] at k7 l7 hopen
          have k1' : strB b ++ (⟨#[60]⟩ : ByteArray) = strB X1 := k1
          have k3' : strB X2 ++ (⟨#[62]⟩ : ByteArray) = strB X3 := k3
          have k5' : strB b ++ (⟨#[62]⟩ : ByteArray) = strB X5 := k5
          clear k1 k3 k5 hX1 hX2 hX3 hX4 hX5 hX6 hX7
          have s1 := fun W h => stamp_calls W X4 (by omega) h
          have s2 := fun W h => stamp_calls W X6 (by omega) h
          have s3 := fun W h => stamp_calls W X7 (by omega) h
          simp only [hmade] at s1
          simp only [hnone] at s2
          simp only [hopen] at s3
          rw [← k7] at s3
          have S1 := Lib.hid s1
          have S2 := Lib.hid s2
          have S3 := Lib.hid s3
          clear s1 s2 s3 hmade hnone hopen he he62 k7 HG C2 G2 HN HN2 HB60 HB62
          go_wp2_with fail
          refine (S1.out _ (HM.out.kept0 HK1.out)).mono ?_
          rintro en w2 ⟨rfl, hk⟩
          have HK2 := Lib.hid (HK1.out.trans' hk)
          clear hk
          by_cases hee : e = []
          · rw [if_pos hee, show stR none = .tuple #[.string (strB []), .bool false] from rfl]
            subst hee
            have q1 : ((strB [] : ByteArray) == ⟨#[]⟩) = true := by decide
            have q1' : ((strB [] : ByteArray) != ⟨#[]⟩) = false := by decide
            go_wp2_with fail
            refine (S2.out _ (HM.out.kept0 HK2.out)).mono ?_
            rintro en w3 ⟨rfl, hk⟩
            have HK3 := Lib.hid (HK2.out.trans' hk)
            clear hk
            rw [show stR none = .tuple #[.string (strB []), .bool false] from rfl]
            go_wp2_with fail
            refine (S3.out _ (HM.out.kept0 HK3.out)).mono ?_
            rintro en w4 ⟨rfl, hk⟩
            have HK4 := Lib.hid (HK3.out.trans' hk)
            clear hk
            rw [show stR none = .tuple #[.string (strB []), .bool false] from rfl]
            go_wp2_with fail
            go_ret
            exact ⟨rfl, HK4.out.below⟩
          · rw [if_neg hee, show stR (some (60 :: (e ++ [62]))) = .tuple #[.string (strB (60 :: (e ++ [62]))), .bool true] from rfl]
            have q0 : (e == []) = false := beq_eq_false_iff_ne.2 hee
            have q0' : (e != []) = true := by rw [bne, q0]; rfl
            have q2 : e.isEmpty = false := by cases e with | nil => exact absurd rfl hee | cons => rfl
            have q1 : (strB e == (⟨#[]⟩ : ByteArray)) = false := by
              cases hh : (strB e == (⟨#[]⟩ : ByteArray)) with
              | false => rfl
              | true => exact absurd (strB_inj ((Go.MapKept.bytes_beq _ _).1 (show (strB e == strB []) = true from hh))) hee
            have q1' : (strB e != (⟨#[]⟩ : ByteArray)) = true := by rw [bne, q1]; rfl
            clear hee
            go_wp2_with fail
            refine (S2.out _ (HM.out.kept0 HK2.out)).mono ?_
            rintro en w3 ⟨rfl, hk⟩
            have HK3 := Lib.hid (HK2.out.trans' hk)
            clear hk
            rw [show stR none = .tuple #[.string (strB []), .bool false] from rfl]
            go_wp2_with fail
            refine (S3.out _ (HM.out.kept0 HK3.out)).mono ?_
            rintro en w4 ⟨rfl, hk⟩
            have HK4 := Lib.hid (HK3.out.trans' hk)
            clear hk
            rw [show stR none = .tuple #[.string (strB []), .bool false] from rfl]
            go_wp2_with fail
            go_ret
            exact ⟨rfl, HK4.out.below⟩
theorem authStamps_walk (W : World) (a0 a1 : ByteArray) (w0 : a0.size ≤ 140737488351232) (w1 : a1.size ≤ 140737488351232) (hL : laidMetH Tryd.prog Rows.authStampsRow.laid W) (hsh : W.ShapedOpen Tryd.prog) :
    Calls Tryd.prog 3 #[.string a0, .string a1] W fun en w' => en = .returned (.bool true) ∧ Below W.heap.size W w' := by
  have h := stamps_law W a0.data.toList a1.data.toList (by rw [Array.length_toList]; exact w0) (by rw [Array.length_toList]; exact w1) (MaxI.of_shape hsh) (SinC.of_laidL hL rfl rfl)
  rwa [strB_data, strB_data] at h
end Go.Proofs.YthnebhnlkjkcmaaDoor
