/- TextJoins' walk. -/
import Derived.Test.YtakfkccljkilnaaDoorTextN2
import Derived.Test.YtakfkccljkilnaaDoorSame
import Derived.Test.YtakfkccljkilnaaDoorRowW
set_option linter.unusedVariables false
set_option linter.unusedSimpArgs false
namespace Go.Proofs.YtakfkccljkilnaaDoor
open Go.RowKit Go.Shelf

theorem strB_append (l m : List UInt8) : strB l ++ strB m = strB (l ++ m) := by
  apply ByteArray.ext
  simp [strB]
theorem strs_one (ls : List (List UInt8)) : ∀ u ∈ strs ls, u.oneCell' = true := by
  intro u hu
  simp only [strs, List.mem_map] at hu
  obtain ⟨q, _, rfl⟩ := hu
  rfl

theorem wordsL_len (l : List UInt8) : (wordsL l).length ≤ l.length + 1 := wordsG_len l []

set_option maxHeartbeats 4000000 in
set_option maxRecDepth 100000 in
theorem joins_law (w : World) (s0 t0 : List UInt8) (b : Bool) (hs : s0.length ≤ 140737488351232) (ht : t0.length ≤ 140737488351232) (hm : MaxI w) :
    Calls Tryd.prog 6 #[.string (strB s0), .string (strB t0), .bool b] w fun en w' => en = .returned (.bool true) ∧ Kept w w' NoB := by
  go_enter Tryd.func6, Tryd.ntmps6
  go_wp2_with fail
  refine (shown_calls w hm).mono ?_
  rintro en w1 ⟨rfl, hk1⟩
  have HK1 := Lib.hid hk1
  clear hk1
  go_wp2_with fail
  refine (short_calls w1 s0 hs).mono ?_
  rintro en wx ⟨rfl, rfl⟩
  obtain ⟨s, hse⟩ : ∃ s, s0.take 400 = s := ⟨_, rfl⟩
  have hsl : s.length ≤ 400 := by rw [← hse, List.length_take]; omega
  rw [hse]
  clear hse
  go_wp2_with fail
  refine (short_calls wx t0 ht).mono ?_
  rintro en wy ⟨rfl, rfl⟩
  obtain ⟨t, hte⟩ : ∃ t, t0.take 400 = t := ⟨_, rfl⟩
  have htl : t.length ≤ 400 := by rw [← hte, List.length_take]; omega
  rw [hte]
  clear hte
  obtain ⟨g, hg, hgb⟩ : ∃ g : UInt8, isBl g = true ∧ (⟨#[if b then 9 else 32]⟩ : ByteArray) = strB [g] := by cases b <;> exact ⟨_, by decide, rfl⟩
  have hwg := words_glue s t hg
  have ha := wordsL_len s
  have hbw := wordsL_len t
  obtain ⟨xs, has⟩ : ∃ xs, wordsL s = xs := ⟨_, rfl⟩
  obtain ⟨ys, hbs⟩ : ∃ ys, wordsL t = ys := ⟨_, rfl⟩
  rw [has, hbs] at hwg
  rw [has] at ha
  rw [hbs] at hbw
  have HAS := Lib.hid has
  have HBS := Lib.hid hbs
  have HWG := Lib.hid hwg
  have e1 : strB s ++ strB [g] = strB (s ++ [g]) := strB_append _ _
  have e2 : strB (s ++ [g]) ++ strB t = strB (s ++ g :: t) := by
    rw [strB_append]
    simp
  have e3 : strB s ++ strB t = strB (s ++ t) := strB_append _ _
  have e4 : strB (upL s) ++ strB (upL t) = strB (upL (s ++ t)) := by rw [strB_append, upL_append]
  have hgs : (strB [g]).size = 1 := rfl
  have ul1 := upL_length s
  have ul2 := upL_length t
  clear has hbs hwg hg
  cases b
  all_goals
    simp only [Bool.false_eq_true, if_false, if_true] at hgb
    go_wp2_with fail
    refine ((words_calls wy s (by omega) (hm.kept0 HK1.out))).mono ?_
    rw [HAS.out]
    rintro en w2 ⟨va, rfl, hra, hk2⟩
    have HK2 := Lib.hid (HK1.out.trans' hk2)
    go_wp2_with fail
    refine (words_calls w2 t (by omega) (hm.kept0 HK2.out)).mono ?_
    rw [HBS.out]
    rintro en w3 ⟨vb, rfl, hrb, hk3⟩
    have HK3 := Lib.hid (HK2.out.trans' hk3)
    have hra3 := hra.kept0 hk3
    go_wp2_with fail
    refine (words_calls w3 (s ++ g :: t) (by simp; omega) (hm.kept0 HK3.out)).mono ?_
    rw [HWG.out]
    rintro en w4 ⟨vc, rfl, hrc, hk4⟩
    have HK4 := Lib.hid (HK3.out.trans' hk4)
    obtain ⟨A2, c2, rfl, hc2, ha2⟩ := (hra3.kept0 hk4).readsN (n := xs.length) (strs_length _)
    obtain ⟨B2, d2, rfl, hd2, hb2⟩ := (hrb.kept0 hk4).readsN (n := ys.length) (strs_length _)
    obtain ⟨C2, e2_, rfl, he2, hcc2⟩ := hrc.readsN (n := xs.length + ys.length) (by rw [strs_length, List.length_append])
    have HA := Lib.hid (Reads.mono ha2 (T := fun k => k < w4.heap.size) fun k hk _ => hk)
    have HB := Lib.hid (Reads.mono hb2 (T := fun k => k < w4.heap.size) fun k hk _ => hk)
    have HC := Lib.hid (Reads.mono hcc2 (T := fun k => k < w4.heap.size) fun k hk _ => hk)
    have O1 := Lib.hid (strs_one xs)
    have O2 := Lib.hid (strs_one ys)
    have hrow0 := Row.made0 w4 9 (fun k => w4.heap.size ≤ k) (Nat.le_refl _)
    clear hk2 hk3 hk4 hra hrb hrc hra3 ha2 hb2 hcc2
    have s1 : ∀ k, (w4.alloc (.cells #[] 9)).heap.size ≤ k → w4.heap.size ≤ k := fun k hk => by rw [World.size_alloc] at hk; omega
    have l1 : (([] : List Value).length + xs.length) * 16 ≤ 140737488355328 := by simp only [List.length_nil]; omega
    have l2 : (([] ++ strs xs : List Value).length + ys.length) * 16 ≤ 140737488355328 := by simp only [List.nil_append, strs_length]; omega
    have n1 : ∀ b, b < w4.heap.size → ¬ OB (.slice (some ⟨w4.heap.size, 0, none⟩) 0 0) b := fun b hb ho => by
      have h : w4.heap.size = b := by simpa [OB, Value.ownBlock] using ho
      omega
    have S1 := Lib.hid s1
    have N1 := Lib.hid n1
    clear s1 n1
    go_wp2_with (first
      | (at_builtin; refine wpList_appN (W := w4.alloc (.cells #[] 9)) rfl (.tmp 30) (.tmp 31) 24 9 (.string ByteArray.empty) 16 rfl Tryd.underlying24 info_str rfl (by decide) (fun k => w4.heap.size ≤ k) (fun k => k < w4.heap.size) (.slice (some ⟨w4.heap.size, 0, none⟩) 0 0) [] (strs xs) A2 xs.length c2 rfl rfl O1.out hrow0 (HA.out.alloc _) S1.out l1 ?_; intro v5 w5 hown5 hkp5 hob5; have hb5 := (HB.out.alloc _).kept hkp5 (fun b _ hb2 ho => N1.out b hb2 ho); have s5 : ∀ k, w5.heap.size ≤ k → w4.heap.size ≤ k := fun k hk => S1.out k (Nat.le_trans hkp5.size hk))
      | (at_builtin; refine wpList_appN (W := w5) rfl (.tmp 32) (.tmp 33) 24 9 (.string ByteArray.empty) 16 rfl Tryd.underlying24 info_str rfl (by decide) (fun k => w4.heap.size ≤ k) (fun k => k < w4.heap.size) v5 ([] ++ strs xs) (strs ys) B2 ys.length d2 rfl rfl O2.out hown5 hb5 s5 l2 ?_; intro v6 w6 hown6 hkp6 hob6)
      | fail)
    rw [List.nil_append, ← strs_append] at hown6
    obtain ⟨A6, c6, rfl, hc6, hr6⟩ := hown6.readsN (n := xs.length + ys.length) (by rw [strs_length, List.length_append])
    have hC5 := (HC.out.alloc (.cells #[] 9)).kept hkp5 (fun b _ hb2 ho => N1.out b hb2 ho)
    have hC6 := hC5.kept hkp6 (fun b _ hb2 ho => absurd (hown5.2 b ho) (by omega))
    have hk6 : Kept w w6 NoB := ((HK4.out.alloc (.cells #[] 9)).trans hkp5 fun b ho => .inr (by
      have h : w4.heap.size = b := by simpa [OB, Value.ownBlock] using ho
      have := HK4.out.size
      omega)).trans hkp6 fun b ho => .inr (by have h := hown5.2 b ho; have := HK4.out.size; omega)
    have HK6 := Lib.hid hk6
    have HC6 := Lib.hid hC6
    have HR6 := Lib.hid hr6
    clear hown6 hown5 hkp5 hkp6 hob5 hob6 hb5 hrow0 hC5 hC6 hk6 hr6
    refine (same_calls w6 _ _ C2 A6 (xs.length + ys.length) e2_ (xs.length + ys.length) c6 (xs ++ ys) (xs ++ ys) HC6.out HR6.out (by omega) (by omega)).mono ?_
    rw [decide_eq_true (rfl : xs ++ ys = xs ++ ys)]
    rintro en w7 ⟨rfl, hk7⟩
    have HK7 := Lib.hid (HK6.out.trans' hk7)
    clear hk7
    have hpa := prL_append s t
    obtain ⟨p1, hp1⟩ : ∃ p, prL s = p := ⟨_, rfl⟩
    obtain ⟨p2, hp2⟩ : ∃ p, prL t = p := ⟨_, rfl⟩
    rw [hp1, hp2] at hpa
    have HPA := Lib.hid hpa
    have HP1 := Lib.hid hp1
    have HP2 := Lib.hid hp2
    clear hpa hp1 hp2
    go_wp2_with fail
    refine (plain_calls w7 (s ++ t) (by simp; omega)).mono ?_
    rw [HPA.out]
    rintro en w8 ⟨rfl, hk8⟩
    have HK8 := Lib.hid (HK7.out.trans' hk8)
    clear hk8
    go_wp2_with fail
    refine (plain_calls w8 s (by omega)).mono ?_
    rw [HP1.out]
    rintro en w9 ⟨rfl, hk9⟩
    have HK9 := Lib.hid (HK8.out.trans' hk9)
    clear hk9
    cases p1
    · simp only [Bool.false_and]
      go_wp2_with fail
      refine (upper_calls w9 (s ++ t) (by simp; omega)).mono ?_
      rintro en w11 ⟨rfl, hk11⟩
      have HK11 := Lib.hid (HK9.out.trans' hk11)
      clear hk11
      go_wp2_with fail
      refine (upper_calls w11 s (by omega)).mono ?_
      rintro en w12 ⟨rfl, hk12⟩
      have HK12 := Lib.hid (HK11.out.trans' hk12)
      clear hk12
      go_wp2_with fail
      refine (upper_calls w12 t (by omega)).mono ?_
      rintro en w13 ⟨rfl, hk13⟩
      have HK13 := Lib.hid (HK12.out.trans' hk13)
      clear hk13
      go_wp2_with fail
      go_ret
      exact ⟨rfl, HK13.out⟩
    · simp only [Bool.true_and]
      go_wp2_with fail
      refine (plain_calls w9 t (by omega)).mono ?_
      rw [HP2.out]
      rintro en w10 ⟨rfl, hk10⟩
      have HK10 := Lib.hid (HK9.out.trans' hk10)
      clear hk10
      go_wp2_with fail
      refine (upper_calls w10 (s ++ t) (by simp; omega)).mono ?_
      rintro en w11 ⟨rfl, hk11⟩
      have HK11 := Lib.hid (HK10.out.trans' hk11)
      clear hk11
      go_wp2_with fail
      refine (upper_calls w11 s (by omega)).mono ?_
      rintro en w12 ⟨rfl, hk12⟩
      have HK12 := Lib.hid (HK11.out.trans' hk12)
      clear hk12
      go_wp2_with fail
      refine (upper_calls w12 t (by omega)).mono ?_
      rintro en w13 ⟨rfl, hk13⟩
      have HK13 := Lib.hid (HK12.out.trans' hk13)
      clear hk13
      go_wp2_with fail
      go_ret
      exact ⟨rfl, HK13.out⟩

theorem textJoins_walk (W : World) (a0 a1 : ByteArray) (a2 : Bool) (w0 : a0.size ≤ 140737488351232) (w1 : a1.size ≤ 140737488351232) (hsh : W.ShapedOpen Tryd.prog) :
    Calls Tryd.prog 6 #[.string a0, .string a1, .bool a2] W fun en w' => en = .returned (.bool true) ∧ Below W.heap.size W w' := by
  obtain ⟨s, rfl, hs⟩ := strB_of a0
  obtain ⟨t, rfl, ht⟩ := strB_of a1
  exact (joins_law W s t a2 (by omega) (by omega) (MaxI.of_shape hsh)).mono fun _ _ ⟨he, hk⟩ => ⟨he, hk.below⟩
end Go.Proofs.YtakfkccljkilnaaDoor
