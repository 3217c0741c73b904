/- LogNames' walk. -/
import Derived.Test.YtammhfnolafknaaDoorLogS
import Derived.Test.YtammhfnolafknaaDoorLogN
import Derived.Test.YtammhfnolafknaaDoorRows
import Derived.Test.YtammhfnolafknaaDoorRowW
import Derived.LaidSub
import Derived.MakeChecks
set_option linter.unusedVariables false
set_option linter.unusedSimpArgs false
namespace Go.Proofs.YtammhfnolafknaaDoor
open Go.RowKit Go.Shelf Go.Lib Go.Sort Go.MakeChecks

theorem PowT.of_names {w : World} (h : laidMetH Tryd.prog Rows.logNamesRow.laid w) : PowT w := by
  have h1 := laidMetH.filter (fun x => x.1 == "internal/strconv.uint64pow10") h
  have e : Rows.logNamesRow.laid.filter (fun x => x.1 == "internal/strconv.uint64pow10") = [("internal/strconv.uint64pow10", Lib.tabData .u64 Lib.pow10Tab)] := by rfl
  rw [e, laidMetH_plain _ _ _ (by rfl)] at h1
  exact Lib.tabIs_of_head (g := 3) (t := 104) (e := 72) (n := 20) (by kernel_rfl) (by kernel_rfl) Tryd.underlying104 Tryd.underlying72 (by kernel_rfl) (by kernel_rfl) h1
set_option maxHeartbeats 8000000 in
set_option maxRecDepth 100000 in
theorem names_law (w : World) (a b : Int) (ha0 : -9223372036854775808 ≤ a) (ha1 : a ≤ 9223372036854775807) (hb0 : -9223372036854775808 ≤ b) (hb1 : b ≤ 9223372036854775807) (hp : PowT w) :
    Calls Tryd.prog 4 #[.int .i64 a, .int .i64 b] w fun en w' => en = .returned (.bool true) ∧ Kept w w' NoB := by
  obtain ⟨x, hx⟩ : ∃ x, nameL a = x := ⟨_, rfl⟩
  obtain ⟨y, hy⟩ : ∃ y, nameL b = y := ⟨_, rfl⟩
  have HX := Lib.hid hx
  have HY := Lib.hid hy
  have N0 : Hid (nameL 0 = [111, 107]) := by show nameL 0 = [111, 107]; decide
  have N74 : Hid (nameL 74 = [101, 118, 101, 110, 116, 115]) := by show nameL 74 = [101, 118, 101, 110, 116, 115]; decide
  have N71 : Hid (nameL 71 = [116, 111, 111, 45, 108, 97, 114, 103, 101]) := by show nameL 71 = [116, 111, 111, 45, 108, 97, 114, 103, 101]; decide
  cases hk : knownN a with
  | false =>
    have hxe : x = [] := by rw [← hx, name_no hk]
    unfold knownN at hk
    simp only [decide_eq_false_iff_not, not_or] at hk
    have t0 : (a == 0) = false := beq_eq_false_iff_ne.2 hk.1
    have t1 : (a == 11) = false := beq_eq_false_iff_ne.2 hk.2.1
    have t2 : (a == 32) = false := beq_eq_false_iff_ne.2 hk.2.2.1
    have hk4 := hk.2.2.2
    subst hxe
    have hor : (¬ 60 ≤ a) ∨ (60 ≤ a ∧ ¬ a ≤ 74) := by omega
    clear hk hx hy hk4
    go_enter Tryd.func4, Tryd.ntmps4
    go_wp2_with fail
    refine (shown_calls w hp).mono ?_
    rintro en w1 ⟨rfl, hk1⟩
    have HK1 := Lib.hid hk1
    clear hk1
    go_wp2_with fail
    refine (name_calls w1 a ha0 ha1).mono ?_
    rw [HX.out]
    rintro en w2 ⟨rfl, hk2⟩
    have HK2 := Lib.hid (HK1.out.trans' hk2)
    clear hk2
    go_wp2_with fail
    refine (name_calls w2 b hb0 hb1).mono ?_
    rw [HY.out]
    rintro en w3 ⟨rfl, hk3⟩
    have HK3 := Lib.hid (HK2.out.trans' hk3)
    clear hk3
    rcases hor with h6 | ⟨h6, h7⟩
    case' inl => have h8 : decide (60 ≤ a) = false := decide_eq_false (by omega)
    case' inr => have h8 : decide (a ≤ 74) = false := decide_eq_false (by omega)
    all_goals
      go_wp2_with fail
      refine (name_calls w3 0 (by decide) (by decide)).mono ?_
      rw [N0.out]
      rintro en w4 ⟨rfl, hk4⟩
      have HK4 := Lib.hid (HK3.out.trans' hk4)
      clear hk4
      go_wp2_with fail
      refine (name_calls w4 74 (by decide) (by decide)).mono ?_
      rw [N74.out]
      rintro en w5 ⟨rfl, hk5⟩
      have HK5 := Lib.hid (HK4.out.trans' hk5)
      clear hk5
      go_wp2_with fail
      refine (name_calls w5 71 (by decide) (by decide)).mono ?_
      rw [N71.out]
      rintro en w6 ⟨rfl, hk6⟩
      have HK6 := Lib.hid (HK5.out.trans' hk6)
      clear hk6
      go_wp2_with fail
      go_ret
      exact ⟨rfl, HK6.out⟩
  | true =>
    have hxe : (x == ([] : List UInt8)) = false := beq_eq_false_iff_ne.2 (by rw [← hx]; exact name_ne hk)
    have hxy : (x == y) = (a == b) := by
      rw [Bool.eq_iff_iff, beq_iff_eq, beq_iff_eq]
      constructor
      · intro h; exact name_inj hk (by rw [hx, hy, h])
      · intro h; rw [← hx, ← hy, h]
    obtain ⟨q, hq⟩ : ∃ q, (a == b) = q := ⟨_, rfl⟩
    rw [hq] at hxy
    unfold knownN at hk
    simp only [decide_eq_true_eq] at hk
    have hor : a = 0 ∨ (a ≠ 0 ∧ a = 11) ∨ (a ≠ 0 ∧ a ≠ 11 ∧ a = 32) ∨ (a ≠ 0 ∧ a ≠ 11 ∧ a ≠ 32 ∧ 60 ≤ a ∧ a ≤ 74) := by omega
    clear hk hx hy
    have key : ∀ (d0 d11 d32 : Bool), (a == 0) = d0 → (a == 11) = d11 → (a == 32) = d32 → (d0 = true ∨ (d0 = false ∧ d11 = true) ∨ (d0 = false ∧ d11 = false ∧ d32 = true) ∨ (d0 = false ∧ d11 = false ∧ d32 = false ∧ 60 ≤ a ∧ a ≤ 74)) → Calls Tryd.prog 4 #[.int .i64 a, .int .i64 b] w fun en w' => en = .returned (.bool true) ∧ Kept w w' NoB := by
      intro d0 d11 d32 e0 e11 e32 hd
      clear hor
      rcases hd with rfl | ⟨rfl, rfl⟩ | ⟨rfl, rfl, rfl⟩ | ⟨rfl, rfl, rfl, h6, h7⟩
      all_goals
        go_enter Tryd.func4, Tryd.ntmps4
        go_wp2_with fail
        refine (shown_calls w hp).mono ?_
        rintro en w1 ⟨rfl, hk1⟩
        have HK1 := Lib.hid hk1
        clear hk1
        go_wp2_with fail
        refine (name_calls w1 a ha0 ha1).mono ?_
        rw [HX.out]
        rintro en w2 ⟨rfl, hk2⟩
        have HK2 := Lib.hid (HK1.out.trans' hk2)
        clear hk2
        go_wp2_with fail
        refine (name_calls w2 b hb0 hb1).mono ?_
        rw [HY.out]
        rintro en w3 ⟨rfl, hk3⟩
        have HK3 := Lib.hid (HK2.out.trans' hk3)
        clear hk3
        go_wp2_with fail
        refine (name_calls w3 0 (by decide) (by decide)).mono ?_
        rw [N0.out]
        rintro en w4 ⟨rfl, hk4⟩
        have HK4 := Lib.hid (HK3.out.trans' hk4)
        clear hk4
        go_wp2_with fail
        refine (name_calls w4 74 (by decide) (by decide)).mono ?_
        rw [N74.out]
        rintro en w5 ⟨rfl, hk5⟩
        have HK5 := Lib.hid (HK4.out.trans' hk5)
        clear hk5
        go_wp2_with fail
        refine (name_calls w5 71 (by decide) (by decide)).mono ?_
        rw [N71.out]
        rintro en w6 ⟨rfl, hk6⟩
        have HK6 := Lib.hid (HK5.out.trans' hk6)
        clear hk6
        go_wp2_with fail
        go_ret
        exact ⟨rfl, HK6.out⟩
    refine key _ _ _ rfl rfl rfl ?_
    simp only [beq_iff_eq, beq_eq_false_iff_ne]
    exact hor
theorem logNames_walk (W : World) (a0 a1 : Int) (w0 : (Lit.int .i64 a0).wf = true) (w1 : (Lit.int .i64 a1).wf = true) (hL : laidMetH Tryd.prog Rows.logNamesRow.laid W) (hsh : W.ShapedOpen Tryd.prog) :
    Calls Tryd.prog 4 #[.int .i64 a0, .int .i64 a1] W fun en w' => en = .returned (.bool true) ∧ Below W.heap.size W w' := by
  simp only [Lit.wf, Bool.and_eq_true, decide_eq_true_eq] at w0 w1
  have e0 : IntKind.i64.min = -9223372036854775808 := rfl
  have e1 : IntKind.i64.max = 9223372036854775807 := rfl
  exact (names_law W a0 a1 (by omega) (by omega) (by omega) (by omega) (PowT.of_names hL)).mono fun _ _ ⟨he, hk⟩ => ⟨he, hk.below⟩
end Go.Proofs.YtammhfnolafknaaDoor
