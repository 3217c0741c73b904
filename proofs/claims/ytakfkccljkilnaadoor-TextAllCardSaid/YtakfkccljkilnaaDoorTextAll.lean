/- TextAll's walk. -/
import Derived.Test.YtakfkccljkilnaaDoorTextRP
import Derived.Test.YtakfkccljkilnaaDoorRefNum
import Derived.Test.YtakfkccljkilnaaDoorTextNum
import Derived.Test.YtakfkccljkilnaaDoorSame
import Derived.Test.YtakfkccljkilnaaDoorDig
import Derived.Test.YtakfkccljkilnaaDoorRowW
import Derived.Deep.RegionHeld3
set_option linter.unusedVariables false
set_option linter.unusedSimpArgs false
namespace Go.Proofs.YtakfkccljkilnaaDoor
open Go.RowKit Go.Shelf Go.Lib Go.MakeChecks Go.Sort

theorem ta_words_len (l : List UInt8) : (wordsL l).length ≤ l.length + 1 := wordsG_len l []
theorem PowT.of_laidA {w : World} (h : laidMetH Tryd.prog Rows.textAllRow.laid w) : PowT w := by
  have h1 := laidMetH.filter (fun x => x.1 == "internal/strconv.uint64pow10") h
  have e : Rows.textAllRow.laid.filter (fun x => x.1 == "internal/strconv.uint64pow10") = [("internal/strconv.uint64pow10", Lib.tabData .u64 Lib.pow10Tab)] := by rfl
  rw [e, laidMetH_plain _ _ _ (by rfl)] at h1
  exact Lib.tabIs_of_head (g := 5) (t := 89) (e := 46) (n := 20) (by kernel_rfl) (by kernel_rfl) Tryd.underlying89 Tryd.underlying46 (by kernel_rfl) (by kernel_rfl) h1
theorem ErrT.of_laidA {w : World} (h : laidMetH Tryd.prog Rows.textAllRow.laid w) : ErrT w := by
  refine ⟨?_, ?_⟩
  · have h1 := laidMetH.filter (fun x => x.1 == "strconv.ErrSyntax") h
    have e : Rows.textAllRow.laid.filter (fun x => x.1 == "strconv.ErrSyntax") = [("strconv.ErrSyntax", Rows.laid_strconv_ErrSyntax)] := by rfl
    rw [e, laidMetH_plain _ _ _ (by rfl)] at h1
    exact errV_of_head (g := 0) (t := 42) (by kernel_rfl) (by kernel_rfl) Tryd.underlying42 h1
  · have h1 := laidMetH.filter (fun x => x.1 == "strconv.ErrRange") h
    have e : Rows.textAllRow.laid.filter (fun x => x.1 == "strconv.ErrRange") = [("strconv.ErrRange", Rows.laid_strconv_ErrRange)] := by rfl
    rw [e, laidMetH_plain _ _ _ (by rfl)] at h1
    exact errV_of_head (g := 1) (t := 42) (by kernel_rfl) (by kernel_rfl) Tryd.underlying42 h1

set_option maxHeartbeats 4000000 in
set_option maxRecDepth 100000 in
theorem textAll_law (w : World) (s0 t0 : List UInt8) (x y : Int) (hs : s0.length ≤ 140737488351232) (ht : t0.length ≤ 140737488351232) (hy0 : -9223372036854775808 ≤ y) (hy1 : y ≤ 9223372036854775807) (hm : MaxI w) (he : ErrT w) (hp : PowT w) :
    Calls Tryd.prog 8 #[.string (strB s0), .string (strB t0), .agg #[.int .i64 x, .int .i64 y]] w fun en w' => en = .returned (.bool true) ∧ Kept w w' NoB := by
  obtain ⟨W, hW⟩ : ∃ W, w.alloc (.cells #[.int .i64 x, .int .i64 y] 37) = W := ⟨_, rfl⟩
  have hkW : Kept w W NoB := by rw [← hW]; exact (Kept.refl _ _).alloc _
  have hbW : Blk W w.heap.size 37 #[.int .i64 x, .int .i64 y] := by rw [← hW]; exact Blk.new _ _ _
  have HK0 := Lib.hid hkW
  have HB0 := Lib.hid hbW
  have HE := Lib.hid he
  have HP := Lib.hid hp
  clear hkW hbW he hp
  go_enter Tryd.func8, Tryd.ntmps8
  go_wp2_with fail
  refine (shown_calls W (hm.kept0 HK0.out)).mono ?_
  rintro en w1 ⟨rfl, hk1⟩
  have HK1 := Lib.hid (HK0.out.trans' hk1)
  have hb1 := HB0.out.kept0 hk1
  have HB1 := Lib.hid hb1
  have c0 : w1.cell? ⟨w.heap.size, 0, none⟩ = some (.int .i64 x) := by rw [hb1.cell]; rfl
  clear hk1 hb1
  go_wp2_with fail
  refine (short_calls w1 s0 hs).mono ?_
  rintro en wx ⟨rfl, rfl⟩
  obtain ⟨s, hse⟩ : ∃ s, s0.take 400 = s := ⟨_, rfl⟩
  have hsl : s.length ≤ 400 := by rw [← hse, List.length_take]; omega
  rw [hse]
  clear hse
  go_wp2_with fail
  refine (short_calls wx t0 ht).mono ?_
  rintro en wy ⟨rfl, rfl⟩
  obtain ⟨t, hte⟩ : ∃ t, t0.take 400 = t := ⟨_, rfl⟩
  have htl : t.length ≤ 400 := by rw [← hte, List.length_take]; omega
  rw [hte]
  clear hte
  obtain ⟨r, hr⟩ : ∃ r, numR (numD s x) = r := ⟨_, rfl⟩
  obtain ⟨a, b, hab⟩ : ∃ a b, r = .tuple #[.int .i64 a, .bool b] := ⟨_, _, hr.symm⟩
  have HR := Lib.hid hr
  subst hab
  clear hr
  go_wp2_with fail
  refine (number_any wy s x (by omega) (HE.out.kept0 HK1.out)).mono ?_
  rw [numA_val, HR.out]
  rintro en w2 ⟨rfl, hk2⟩
  have HK2 := Lib.hid (HK1.out.trans' hk2)
  have hb2 := HB1.out.kept0 hk2
  have HB2 := Lib.hid hb2
  have c2 : w2.cell? ⟨w.heap.size, 0, none⟩ = some (.int .i64 x) := by rw [hb2.cell]; rfl
  clear hk2 hb2
  go_wp2_with fail
  refine (refNumber_calls w2 s x (by omega)).mono ?_
  rw [HR.out]
  rintro en w2' ⟨rfl, hw2⟩
  subst hw2
  have ha := ta_words_len s
  obtain ⟨xs, has⟩ : ∃ xs, wordsL s = xs := ⟨_, rfl⟩
  rw [has] at ha
  have HAS := Lib.hid has
  clear has
  go_wp2_with fail
  refine (words_calls w2 s (by omega) (hm.kept0 HK2.out)).mono ?_
  rw [HAS.out]
  rintro en w3 ⟨va, rfl, hra, hk3⟩
  have HK3 := Lib.hid (HK2.out.trans' hk3)
  have HB3 := Lib.hid (HB2.out.kept0 hk3)
  obtain ⟨A2, c2_, rfl, hc2_, ha2⟩ := hra.readsN (n := xs.length) (strs_length _)
  have HA2 := Lib.hid ha2
  clear hk3 hra ha2
  go_wp2_with fail
  refine (refWords_calls w3 s (by omega)).mono ?_
  rw [HAS.out]
  rintro en w4 ⟨vb, rfl, hrb, hk4⟩
  have HK4 := Lib.hid (HK3.out.trans' hk4)
  have HB4 := Lib.hid (HB3.out.kept0 hk4)
  obtain ⟨B2, d2_, rfl, hd2_, hb2⟩ := hrb.readsN (n := xs.length) (strs_length _)
  have HA4 := Lib.hid (HA2.out.kept0 hk4)
  have HC4 := Lib.hid hb2
  clear hk4 hrb hb2
  go_wp2_with fail
  refine (same_calls w4 _ _ A2 B2 xs.length c2_ xs.length d2_ xs xs HA4.out HC4.out (by omega) (by omega)).mono ?_
  rw [decide_eq_true (rfl : xs = xs)]
  rintro en w5 ⟨rfl, hk5⟩
  have HK5 := Lib.hid (HK4.out.trans' hk5)
  have HB5 := Lib.hid (HB4.out.kept0 hk5)
  clear hk5
  have hb5 := HB5.out
  have hm5 := hm.kept0 HK5.out
  have hp5 := HP.out.kept0 HK5.out
  obtain ⟨U, hU⟩ : ∃ U, strB (upL s) = U := ⟨_, rfl⟩
  obtain ⟨D, hD⟩ : ∃ D, strB (itoa y) = D := ⟨_, rfl⟩
  obtain ⟨p, hp⟩ : ∃ p, prL s = p := ⟨_, rfl⟩
  obtain ⟨q, hq⟩ : ∃ q, hasTx s t = q := ⟨_, rfl⟩
  have f1 : ∀ W, Kept w5 W NoB → Calls Tryd.prog 15 #[.string (strB s)] W fun en w' => en = .returned (.string U) ∧ Kept W w' NoB := fun W k => hU ▸ upper_calls W s (by omega)
  have f2 : ∀ W, Kept w5 W NoB → Calls Tryd.prog 20 #[.string (strB s)] W fun en w' => en = .returned (.string U) ∧ Kept W w' NoB := fun W k => hU ▸ refUpper_calls W s (by omega)
  have f3 : ∀ W, Kept w5 W NoB → Calls Tryd.prog 17 #[.string (strB s)] W fun en w' => en = .returned (.bool p) ∧ Kept W w' NoB := fun W k => hp ▸ plain_calls W s (by omega)
  have f4 : ∀ W, Kept w5 W NoB → Calls Tryd.prog 21 #[.string (strB s)] W fun en w' => en = .returned (.bool p) ∧ Kept W w' NoB := fun W k => hp ▸ (refPlain_calls W s (by omega)).mono fun _ _ ⟨a, b⟩ => ⟨a, b ▸ Kept.refl _ _⟩
  have f5 : ∀ W, Kept w5 W NoB → Calls Tryd.prog 13 #[.int .i64 y] W fun en w' => en = .returned (.string D) ∧ Kept W w' NoB := fun W k => hD ▸ digits_calls W y hy0 hy1 (hp5.kept0 k)
  have f6 : ∀ W, Kept w5 W NoB → Calls Tryd.prog 22 #[.int .i64 y] W fun en w' => en = .returned (.string D) ∧ Kept W w' NoB := fun W k => hD ▸ (refDigits_calls W y hy0 hy1).mono fun _ _ ⟨a, b⟩ => ⟨a, b ▸ Kept.refl _ _⟩
  have f7 : ∀ W, Kept w5 W NoB → Calls Tryd.prog 16 #[.string (strB s), .string (strB t)] W fun en w' => en = .returned (.bool q) ∧ Kept W w' NoB := fun W k => hq ▸ hasT_calls W s t (by omega) (by omega) (hm5.kept0 k)
  have f8 : ∀ W, Kept w5 W NoB → Calls Tryd.prog 23 #[.string (strB s), .string (strB t)] W fun en w' => en = .returned (.bool q) ∧ Kept W w' NoB := fun W k => hq ▸ refHas_calls W s t (by omega) (by omega)
  have F1 := Lib.hid f1
  have F2 := Lib.hid f2
  have F3 := Lib.hid f3
  have F4 := Lib.hid f4
  have F5 := Lib.hid f5
  have F6 := Lib.hid f6
  have F7 := Lib.hid f7
  have F8 := Lib.hid f8
  have ce : ∀ W, Kept w5 W NoB → W.cell? ⟨w.heap.size, 1, none⟩ = some (.int .i64 y) := fun W k => by rw [(hb5.kept0 k).cell]; rfl
  have CE := Lib.hid ce
  have k0 : Kept w5 w5.drew NoB := (Kept.refl _ _).drew
  clear f1 f2 f3 f4 f5 f6 f7 f8 ce hb5 hm5 hp5 hU hD hp hq HE HP HR HAS c0 c2
  go_wp2_with fail
  cases p <;> cases q
  all_goals
    go_region_held3 (fun w' => w'.cell? ⟨w.heap.size, 1, none⟩ = some (.int .i64 y) ∧ Kept w5 w' NoB) (first | exact ⟨CE.out _ k0, k0⟩ | exact ⟨CE.out _ k1, k1⟩ | exact ⟨CE.out _ k2, k2⟩ | exact ⟨CE.out _ k3, k3⟩ | exact ⟨CE.out _ k4, k4⟩ | exact ⟨CE.out _ k5, k5⟩ | exact ⟨CE.out _ k6, k6⟩ | exact ⟨CE.out _ k7, k7⟩ | exact ⟨CE.out _ k8, k8⟩) (first
      | (go_at_call 15; (with_reducible refine (F1.out _ k0).mono ?_); rintro en w6 ⟨rfl, h1⟩; have k1 := k0.trans' h1)
      | (go_at_call 20; (with_reducible refine (F2.out _ k1).mono ?_); rintro en w7 ⟨rfl, h2⟩; have k2 := k1.trans' h2)
      | (go_at_call 17; (with_reducible refine (F3.out _ k2).mono ?_); rintro en w8 ⟨rfl, h3⟩; have k3 := k2.trans' h3)
      | (go_at_call 21; (with_reducible refine (F4.out _ k3).mono ?_); rintro en w9 ⟨rfl, h4⟩; have k4 := k3.trans' h4)
      | (go_at_call 13; (with_reducible refine (F5.out _ k4).mono ?_); rintro en w10 ⟨rfl, h5⟩; have k5 := k4.trans' h5)
      | (go_at_call 22; (with_reducible refine (F6.out _ k5).mono ?_); rintro en w11 ⟨rfl, h6⟩; have k6 := k5.trans' h6)
      | (go_at_call 16; (with_reducible refine (F7.out _ k6).mono ?_); rintro en w12 ⟨rfl, h7⟩; have k7 := k6.trans' h7)
      | (go_at_call 23; (with_reducible refine (F8.out _ k7).mono ?_); rintro en w13 ⟨rfl, h8⟩; have k8 := k7.trans' h8))
    go_wp2_with fail
    go_ret
    exact ⟨rfl, HK5.out.trans' k8⟩
theorem textAll_walk (W : World) (a0 a1 : ByteArray) (a2_0 a2_1 : Int) (w0 : a0.size ≤ 140737488351232) (w1 : a1.size ≤ 140737488351232) (w2_0 : (Lit.int .i64 a2_0).wf = true) (w2_1 : (Lit.int .i64 a2_1).wf = true) (hL : laidMetH Tryd.prog Rows.textAllRow.laid W) (hsh : W.ShapedOpen Tryd.prog) :
    Calls Tryd.prog 8 #[.string a0, .string a1, .agg #[.int .i64 a2_0, .int .i64 a2_1]] W fun en w' => en = .returned (.bool true) ∧ Below W.heap.size W w' := by
  obtain ⟨s, rfl, hs⟩ := strB_of a0
  obtain ⟨t, rfl, ht⟩ := strB_of a1
  simp only [Lit.wf, Bool.and_eq_true, decide_eq_true_eq] at w2_1
  have h2 : -9223372036854775808 ≤ a2_1 ∧ a2_1 ≤ 9223372036854775807 := w2_1
  exact (textAll_law W s t a2_0 a2_1 (by omega) (by omega) h2.1 h2.2 (MaxI.of_shape hsh) (ErrT.of_laidA hL) (PowT.of_laidA hL)).mono fun _ _ ⟨he, hk⟩ => ⟨he, hk.below⟩
end Go.Proofs.YtakfkccljkilnaaDoor
