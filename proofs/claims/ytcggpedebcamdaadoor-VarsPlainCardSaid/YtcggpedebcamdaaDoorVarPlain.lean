/- VarsPlain's walk. -/
import Derived.Test.YtcggpedebcamdaaDoorVarS
import Derived.Test.YtcggpedebcamdaaDoorRowW
set_option linter.unusedVariables false
set_option linter.unusedSimpArgs false
namespace Go.Proofs.YtcggpedebcamdaaDoor
open Go.RowKit Go.Shelf Go.Lib

def PlnS (w0 : World) (t : List UInt8) (gk : Nat) (v5 v6 v7 : Value) (wr : World) : Prop :=
  ∃ i, i ≤ t.length ∧ gk = t.length - i ∧ v5 = .string (strB (twiceL (t.take i))) ∧ v6 = .string (strB (bareL (t.take i))) ∧ v7 = .int .i64 (i : Int) ∧ wr = w0
set_option maxHeartbeats 2000000 in
set_option maxRecDepth 100000 in
theorem plain_law (w : World) (t0 : List UInt8) (hm : MaxI w) :
    Calls Tryd.prog 5 #[.string (strB t0)] w fun en w' => en = .returned (.bool true) ∧ Kept w w' NoB := by
  go_enter Tryd.func5, Tryd.ntmps5
  go_wp2_with fail
  refine (shown_calls w hm).mono ?_
  rintro en w1 ⟨rfl, hk1⟩
  have HK1 := Lib.hid hk1
  clear hk1
  go_wp2_with fail
  obtain ⟨t, ht⟩ : ∃ t, t0.take 300 = t := ⟨_, rfl⟩
  have htl : t.length ≤ 300 := by rw [← ht, List.length_take]; omega
  refine (short_calls w1 t0 300 (by omega) 300 rfl t ht).mono ?_
  rintro en w2 ⟨rfl, rfl⟩
  clear ht
  go_wp2_with fail
  refine (new_calls w2).mono ?_
  rintro en w3 ⟨rfl, h3, hk3⟩
  have H3 := Lib.hid h3
  have HK3 := Lib.hid (HK1.out.trans' hk3)
  clear h3 hk3
  go_wp2_with fail
  go_loopg [5, 6, 7] t.length (fun gk v5 v6 v7 wr => PlnS w3 t gk v5 v6 v7 wr)
  case atStart => exact ⟨0, Nat.zero_le _, rfl, rfl, rfl, rfl, rfl⟩
  case round =>
    obtain ⟨i, hi, hgk, rfl, rfl, rfl, rfl⟩ := hrel
    have HG := Lib.hid hgk
    clear hgk
    rcases Nat.lt_or_ge i t.length with hlt | hge
    · have h1 := twice_snoc hlt
      have h2 := bare_snoc hlt
      have l1 := twice_len (t.take i)
      have l2 := bare_len (t.take i)
      rw [List.length_take] at l1 l2
      have he := strB_cut t i (i + 1)
      rw [show i + 1 - i = 1 by omega, take_one hlt] at he
      obtain ⟨A, hA⟩ : ∃ A, twiceL (t.take i) = A := ⟨_, rfl⟩
      obtain ⟨B, hB⟩ : ∃ B, bareL (t.take i) = B := ⟨_, rfl⟩
      rw [hA] at h1 l1 ⊢
      rw [hB] at h2 l2 ⊢
      have hbi : i < (strB t).size := by rw [strB_size]; exact hlt
      have hbi2 : i + 1 ≤ (strB t).size := by rw [strB_size]; omega
      have al : A.length ≤ 600 := by omega
      have bl : B.length ≤ 300 := by omega
      have hg := strB_getI t i hbi
      obtain ⟨c, hc⟩ : ∃ c, t[i]'hlt = c := ⟨_, rfl⟩
      have hg' : (strB t)[i] = c := hg.trans hc
      simp only [hc] at h1 h2 he
      by_cases h36 : c = 36
      · subst h36
        rw [if_pos rfl] at h1 h2
        have hx : ((strB t)[i]'(by rw [strB_size]; exact hlt)).toNat = 36 := by rw [hg']; rfl
        have a1 := strB_app A [36]
        have a2 := strB_app (A ++ [36]) [36]
        have a3 : strB (A ++ [36]) ++ (⟨#[36]⟩ : ByteArray) = strB (A ++ [36] ++ [36]) := a2
        have H1 := Lib.hid h1
        have H2 := Lib.hid h2
        clear h1 h2 l1 l2 hA hB hg hg' hc
        go_wp2_with fail
        go_roundg (t.length - (i + 1))
        case measure => have := HG.out; omega
        case rel => exact ⟨i + 1, hlt, rfl, by rw [H1.out], by rw [H2.out, List.append_nil], by go_num, rfl⟩
      · rw [if_neg h36] at h1 h2
        have n36 : ((c.toNat : Int) == 36) = false := by
          rw [beq_eq_false_iff_ne]
          intro e
          exact h36 (UInt8.toNat_inj.1 (by have : c.toNat = 36 := by omega
                                           rw [this]; rfl))
        have a1 := strB_app A [c]
        have a2 := strB_app B [c]
        have H1 := Lib.hid h1
        have H2 := Lib.hid h2
        clear h1 h2 l1 l2 hA hB h36 hc hg
        go_wp2_with fail
        go_roundg (t.length - (i + 1))
        case measure => have := HG.out; omega
        case rel => exact ⟨i + 1, hlt, rfl, by rw [H1.out], by rw [H2.out], by go_num, rfl⟩
    · obtain rfl : i = t.length := by omega
      rw [List.take_of_length_le (Nat.le_refl _)]
      have l1 := twice_len t
      have l2 := bare_len t
      have e1 := expand_twice (findV []) t
      have e2 := expand_bare (findV []) t
      have e3 := names_twice t
      have e4 := names_bare1 t
      have e5 := expand_bare1 (findV []) t
      obtain ⟨A, hA⟩ : ∃ A, twiceL t = A := ⟨_, rfl⟩
      obtain ⟨B, hB⟩ : ∃ B, bareL t = B := ⟨_, rfl⟩
      rw [hA] at e1 e3 l1 ⊢
      rw [hB] at e2 e4 e5 l2 ⊢
      have a1 : strB B ++ (⟨#[36]⟩ : ByteArray) = strB (B ++ [36]) := strB_app B [36]
      have E1 := Lib.hid e1
      have E2 := Lib.hid e2
      have E3 := Lib.hid e3
      have E4 := Lib.hid e4
      have E5 := Lib.hid e5
      clear e1 e2 e3 e4 e5 hA hB
      go_wp2_with fail
      refine (expand_at wr _ _ _ A _ H3.out rfl (by simp) (by omega) (hm.kept0 HK3.out) _ E1.out).mono ?_
      rintro en w4 ⟨rfl, hk4⟩
      have HK4 := Lib.hid (HK3.out.trans' hk4)
      have H4 := Lib.hid (H3.out.kept0 hk4)
      clear hk4
      simp only [Option.getD_some, Option.isSome_some]
      go_wp2_with fail
      refine (expand_at w4 _ _ _ B _ H4.out rfl (by simp) (by omega) (hm.kept0 HK4.out) _ E2.out).mono ?_
      rintro en w5 ⟨rfl, hk5⟩
      have HK5 := Lib.hid (HK4.out.trans' hk5)
      have H5 := Lib.hid (H4.out.kept0 hk5)
      clear hk5
      simp only [Option.getD_some, Option.isSome_some]
      go_wp2_with fail
      refine (names_calls w5 A (by omega) (hm.kept0 HK5.out) _ E3.out).mono ?_
      rintro en w6 ⟨v6, rfl, hr6, hk6⟩
      obtain ⟨A6, c6, rfl, _⟩ := hr6.readsN (n := 0) rfl
      have HK6 := Lib.hid (HK5.out.trans' hk6)
      have H6 := Lib.hid (H5.out.kept0 hk6)
      clear hk6 hr6
      simp only [Option.isSome_some]
      go_wp2_with fail
      refine (names_calls w6 (B ++ [36]) (by rw [List.length_append]; simp; omega) (hm.kept0 HK6.out) _ E4.out).mono ?_
      rintro en w7 ⟨v7, rfl, hr7, hk7⟩
      obtain ⟨A7, c7, rfl, _⟩ := hr7.readsN (n := 0) rfl
      have HK7 := Lib.hid (HK6.out.trans' hk7)
      have H7 := Lib.hid (H6.out.kept0 hk7)
      clear hk7 hr7
      simp only [Option.isSome_none]
      go_wp2_with fail
      refine (expand_at w7 _ _ _ (B ++ [36]) _ H7.out rfl (by simp) (by rw [List.length_append]; simp; omega) (hm.kept0 HK7.out) _ E5.out).mono ?_
      rintro en w8 ⟨rfl, hk8⟩
      have HK8 := Lib.hid (HK7.out.trans' hk8)
      clear hk8
      simp only [Option.getD_none, Option.isSome_none]
      go_wp2_with fail
      go_ret
      exact ⟨rfl, HK8.out⟩
theorem varsPlain_walk (W : World) (a0 : ByteArray) (w0 : a0.size ≤ 140737488351232) (hsh : W.ShapedOpen Tryd.prog) :
    Calls Tryd.prog 5 #[.string a0] W fun en w' => en = .returned (.bool true) ∧ Below W.heap.size W w' := by
  obtain ⟨t, rfl, _⟩ := strB_of a0
  exact (plain_law W t (MaxI.of_shape hsh)).mono fun _ _ ⟨he, hk⟩ => ⟨he, hk.below⟩
end Go.Proofs.YtcggpedebcamdaaDoor
