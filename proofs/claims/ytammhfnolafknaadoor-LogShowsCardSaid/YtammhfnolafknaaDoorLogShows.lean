/- LogShows' walk. -/
import Derived.Test.YtammhfnolafknaaDoorLogM
import Derived.Test.YtammhfnolafknaaDoorLogS
import Derived.Test.YtammhfnolafknaaDoorRows
import Derived.Test.YtammhfnolafknaaDoorRowW
import Derived.LaidSub
import Derived.MakeChecks
set_option linter.unusedVariables false
set_option linter.unusedSimpArgs false
namespace Go.Proofs.YtammhfnolafknaaDoor
open Go.RowKit Go.Shelf Go.Lib Go.Sort Go.MakeChecks

theorem PowT.of_shows {w : World} (h : laidMetH Tryd.prog Rows.logShowsRow.laid w) : PowT w := by
  have h1 := laidMetH.filter (fun x => x.1 == "internal/strconv.uint64pow10") h
  have e : Rows.logShowsRow.laid.filter (fun x => x.1 == "internal/strconv.uint64pow10") = [("internal/strconv.uint64pow10", Lib.tabData .u64 Lib.pow10Tab)] := by rfl
  rw [e, laidMetH_plain _ _ _ (by rfl)] at h1
  exact Lib.tabIs_of_head (g := 3) (t := 104) (e := 72) (n := 20) (by kernel_rfl) (by kernel_rfl) Tryd.underlying104 Tryd.underlying72 (by kernel_rfl) (by kernel_rfl) h1
/-! ### Plain -/
theorem showC_len_odd {c : UInt8} (h : oddC c = true) : (showC c).length = 4 := by unfold showC; rw [if_pos h]; rfl
theorem showC_plain {c : UInt8} (h : oddC c = false) : showC c = [c] := by unfold showC; rw [if_neg (by rw [h]; decide)]
theorem showL_cons (c : UInt8) (l : List UInt8) : showL (c :: l) = showC c ++ showL l := by unfold showL; rw [List.flatMap_cons]
theorem showL_app (a b : List UInt8) : showL (a ++ b) = showL a ++ showL b := by unfold showL; rw [List.flatMap_append]
theorem showL_odd : ∀ l : List UInt8, (showL l).length = l.length + 3 * l.countP oddC
  | [] => rfl
  | c :: l => by
    rw [showL_cons, List.length_append, showL_odd l, List.length_cons]
    cases h : oddC c with
    | true => rw [showC_len_odd h, List.countP_cons_of_pos h]; omega
    | false => rw [showC_plain h, List.countP_cons_of_neg (by rw [h]; decide)]; simp; omega
theorem showL_same : ∀ l : List UInt8, l.countP oddC = 0 → showL l = l
  | [], _ => rfl
  | c :: l, h0 => by
    cases h : oddC c with
    | true => rw [List.countP_cons_of_pos h] at h0; omega
    | false =>
      rw [List.countP_cons_of_neg (by rw [h]; decide)] at h0
      rw [showL_cons, showC_plain h, showL_same l h0]
      rfl
theorem hexC_ne : ∀ k < 16, hexC k ≠ 92 := by decide +kernel
theorem showL_last (r s : List UInt8) : showL r ≠ s ++ [92] := by
  intro h
  rcases List.eq_nil_or_concat r with rfl | ⟨r', c, rfl⟩
  · have := congrArg List.length h
    simp [showL] at this
  · rw [List.concat_eq_append, showL_app, showL_cons] at h
    have hl := congrArg List.getLast? h
    rw [List.getLast?_append] at hl
    have e0 : showL [] = [] := rfl
    rw [e0, List.append_nil] at hl
    cases ho : oddC c with
    | true =>
      have e : showC c = 92 :: 120 :: hex2 c := by unfold showC; rw [if_pos ho]
      rw [e, List.getLast?_append] at hl
      simp [hex2] at hl
      exact hexC_ne _ (Nat.mod_lt _ (by decide)) hl
    | false =>
      rw [showC_plain ho, List.getLast?_append] at hl
      simp at hl
      rw [hl] at ho
      exact absurd ho (by decide)
theorem meantL_lone (s : List UInt8) : meantL (s ++ [92]) = none := by
  unfold meantL
  cases joinP (Lib.split (s ++ [92]) [92, 120]).tail with
  | none => rfl
  | some x =>
    show (if _ then _ else _) = none
    rw [if_neg (showL_last _ _)]
theorem countP_more (l : List UInt8) {i : Nat} (h : i < l.length) : (l.take (i + 1)).countP oddC = (l.take i).countP oddC + if oddC l[i] then 1 else 0 := by
  rw [List.take_succ_eq_append_getElem h, List.countP_append]
  congr 1
  simp [List.countP_cons]
/-! ### The walk -/
set_option maxHeartbeats 1000000 in
theorem short_calls (w : World) (l : List UInt8) : Calls Tryd.prog 12 #[.string (strB l)] w fun en w' => en = .returned (.string (strB (l.take 600))) ∧ w' = w := by
  go_enter Tryd.func12, Tryd.ntmps12
  have hs := strB_size l
  rcases Nat.lt_or_ge 600 l.length with h | h
  · have t : (600 : Int) < (l.length : Int) := by omega
    have hc : (strB l).extract 0 600 = strB (l.take 600) := by rw [strB_cut]; rfl
    go_wp2_with fail
    go_ret
    exact ⟨rfl, rfl⟩
  · have t : ¬ (600 : Int) < (l.length : Int) := by omega
    rw [List.take_of_length_le h]
    go_wp2_with fail
    go_ret
    exact ⟨rfl, rfl⟩
def OdS (w0 : World) (l : List UInt8) (gk : Nat) (v6 v7 : Value) (wr : World) : Prop :=
  ∃ i, i ≤ l.length ∧ gk = l.length - i ∧ v7 = .int .i64 (i : Int) ∧ v6 = .int .i64 (((l.take i).countP oddC : Nat) : Int) ∧ Kept w0 wr NoB
set_option maxHeartbeats 8000000 in
set_option maxRecDepth 100000 in
theorem shows_law (w : World) (s0 t0 : List UInt8) (hp : PowT w) (hm : MaxI w) :
    Calls Tryd.prog 5 #[.string (strB s0), .string (strB t0)] w fun en w' => en = .returned (.bool true) ∧ Kept w w' NoB := by
  go_enter Tryd.func5, Tryd.ntmps5
  go_wp2_with fail
  refine (shown_calls w hp).mono ?_
  rintro en w1 ⟨rfl, hk1⟩
  have HK1 := Lib.hid hk1
  clear hk1
  go_wp2_with fail
  refine (short_calls w1 s0).mono ?_
  rintro en _ ⟨rfl, rfl⟩
  go_wp2_with fail
  refine (short_calls _ t0).mono ?_
  rintro en _ ⟨rfl, rfl⟩
  obtain ⟨s, hs⟩ : ∃ s, s0.take 600 = s := ⟨_, rfl⟩
  obtain ⟨t, ht⟩ : ∃ s, t0.take 600 = s := ⟨_, rfl⟩
  have hsl : s.length ≤ 600 := by rw [← hs, List.length_take]; omega
  have htl : t.length ≤ 600 := by rw [← ht, List.length_take]; omega
  rw [hs, ht]
  clear hs ht
  go_wp2_with fail
  go_loopg [6, 7] s.length (fun gk v6 v7 wr => OdS w s gk v6 v7 wr)
  case atStart => exact ⟨0, Nat.zero_le _, rfl, rfl, rfl, HK1.out⟩
  case round =>
    obtain ⟨i, hi, hgk, rfl, rfl, hkr⟩ := hrel
    have HG := Lib.hid hgk
    have HKR := Lib.hid hkr
    clear hgk hkr
    rcases Nat.lt_or_ge i s.length with hlt | hge
    · have ti : (i : Int) < (s.length : Int) := by omega
      have hcm := countP_more s hlt
      have hcl := List.countP_le_length (p := oddC) (l := s.take i)
      rw [List.length_take] at hcl
      have hix : ((strB s)[i]'(by rw [strB_size]; exact hlt)) = s[i] := strB_getI s i _
      have hsz : (strB s).size = s.length := strB_size s
      obtain ⟨c, hc⟩ : ∃ c, s[i] = c := ⟨_, rfl⟩
      rw [hc] at hcm hix
      obtain ⟨x, hx⟩ : ∃ x : Nat, c.toNat = x := ⟨_, rfl⟩
      have hix' : ((strB s)[i]'(by rw [strB_size]; exact hlt)).toNat = x := by rw [hix, hx]
      have hod : oddC c = decide (x < 32 ∨ 126 < x ∨ x = 92) := by unfold oddC; rw [hx]
      obtain ⟨m, hmm⟩ : ∃ m, (s.take i).countP oddC = m := ⟨_, rfl⟩
      rw [hmm] at hcm hcl ⊢
      have hm6 : m ≤ 600 := by omega
      clear hix hc hx hmm hcl
      by_cases ho : x < 32 ∨ 126 < x ∨ x = 92
      · rw [decide_eq_true ho] at hod
        rw [hod, if_pos rfl] at hcm
        have HCM := Lib.hid hcm
        have hor : x < 32 ∨ (¬ x < 32 ∧ 126 < x) ∨ (¬ x < 32 ∧ ¬ 126 < x ∧ x = 92) := by omega
        clear ho hcm hod
        rcases hor with h1 | ⟨h1, h2⟩ | ⟨h1, h2, h3⟩
        case' inl => have t1 : ((x : Int) < 32) := by omega
        case' inr.inl =>
          have t1 : ¬ ((x : Int) < 32) := by omega
          have t2 : (126 < (x : Int)) := by omega
        case' inr.inr =>
          have t1 : ¬ ((x : Int) < 32) := by omega
          have t2 : ¬ (126 < (x : Int)) := by omega
          have t3 : ((x : Int) == 92) = true := by rw [h3]; rfl
          clear h3
        all_goals
          go_wp2_with fail
          go_roundg (s.length - (i + 1))
          case measure => have := HG.out; omega
          case rel => exact ⟨i + 1, hlt, rfl, by go_num, by rw [HCM.out]; go_num, (HKR.out)⟩
      · rw [decide_eq_false ho] at hod
        rw [hod, if_neg (by decide)] at hcm
        have HCM := Lib.hid hcm
        have t1 : ¬ ((x : Int) < 32) := by omega
        have t2 : ¬ (126 < (x : Int)) := by omega
        have t3 : ((x : Int) == 92) = false := by rw [beq_eq_false_iff_ne]; omega
        clear ho hcm hod
        go_wp2_with fail
        go_roundg (s.length - (i + 1))
        case measure => have := HG.out; omega
        case rel => exact ⟨i + 1, hlt, rfl, by go_num, by rw [HCM.out]; rfl, (HKR.out)⟩
    · obtain rfl : i = s.length := by omega
      rw [List.take_length]
      have hod := showL_odd s
      have hsame := showL_same s
      have happ := showL_app s t
      have hlone := meantL_lone (showL s)
      have hll := showL_len s
      have hlt := showL_len t
      have hcl := List.countP_le_length (p := oddC) (l := s)
      obtain ⟨m, hmm⟩ : ∃ m, s.countP oddC = m := ⟨_, rfl⟩
      rw [hmm] at hod hsame hcl ⊢
      obtain ⟨x, hx⟩ : ∃ x, showL s = x := ⟨_, rfl⟩
      obtain ⟨y, hy⟩ : ∃ x, showL t = x := ⟨_, rfl⟩
      rw [hx] at hod hsame happ hlone hll
      rw [hy] at happ hlt
      have HAPP := Lib.hid happ
      have HLONE := Lib.hid hlone
      have HX := Lib.hid hx
      have HY := Lib.hid hy
      have ti : ¬ (s.length : Int) < (s.length : Int) := by omega
      have hsz : (strB s).size = s.length := strB_size s
      have hszt : (strB t).size = t.length := strB_size t
      have hszx : (strB x).size = x.length := strB_size x
      have hszy : (strB y).size = y.length := strB_size y
      have e1 : strB x ++ (⟨#[92]⟩ : ByteArray) = strB (x ++ [92]) := strB_app x [92]
      have e2 : strB s ++ strB t = strB (s ++ t) := strB_app s t
      have e3 : strB x ++ strB y = strB (x ++ y) := strB_app x y
      have z1 : ¬ (9223372036854775807 < x.length + 1) := by omega
      have z2 : ¬ (9223372036854775807 < s.length + t.length) := by omega
      have z3 : ¬ (9223372036854775807 < x.length + y.length) := by omega
      have q1 : ((x.length : Int) == (s.length : Int) + 3 * (m : Int)) = true := by rw [beq_iff_eq]; omega
      have q3 : (x ++ y == x ++ y) = true := by rw [beq_iff_eq]
      clear happ hlone hx hy hmm
      have hor : (0 < m ∧ 0 < m) ∨ (¬ 0 < m ∧ x = s) := by
        rcases Nat.eq_zero_or_pos m with h | h
        · exact .inr ⟨by omega, hsame h⟩
        · exact .inl ⟨h, h⟩
      clear hsame hod
      rcases hor with ⟨h1, _⟩ | ⟨h1, h2⟩
      case' inl => have q2 : (0 : Int) < (m : Int) := by omega
      case' inr =>
        have q2 : ¬ (0 : Int) < (m : Int) := by omega
        have q4 : (x == s) = true := by rw [beq_iff_eq]; exact h2
        clear h2
      all_goals
        go_wp2_with fail
        refine (shownL_calls _ s (by omega)).mono ?_
        rw [HX.out]
        rintro en w4 ⟨rfl, hk4⟩
        have HK4 := Lib.hid (HKR.out.trans' hk4)
        clear hk4
        go_wp2_with fail
        refine (meant_calls w4 (x ++ [92]) (by simp; omega) (hm.kept0 HK4.out)).mono ?_
        rw [HLONE.out]
        rintro en w5 ⟨rfl, hk5⟩
        have HK5 := Lib.hid (HK4.out.trans' hk5)
        clear hk5
        go_wp2_with fail
        refine (shownL_calls _ (s ++ t) (by rw [List.length_append]; omega)).mono ?_
        rw [HAPP.out]
        rintro en w6 ⟨rfl, hk6⟩
        have HK6 := Lib.hid (HK5.out.trans' hk6)
        clear hk6
        go_wp2_with fail
        refine (shownL_calls _ t (by omega)).mono ?_
        rw [HY.out]
        rintro en w7 ⟨rfl, hk7⟩
        have HK7 := Lib.hid (HK6.out.trans' hk7)
        clear hk7
        go_wp2_with fail
        go_ret
        exact ⟨rfl, HK7.out⟩
theorem logShows_walk (W : World) (a0 a1 : ByteArray) (w0 : a0.size ≤ 140737488351232) (w1 : a1.size ≤ 140737488351232) (hL : laidMetH Tryd.prog Rows.logShowsRow.laid W) (hsh : W.ShapedOpen Tryd.prog) :
    Calls Tryd.prog 5 #[.string a0, .string a1] W fun en w' => en = .returned (.bool true) ∧ Below W.heap.size W w' := by
  obtain ⟨s, rfl, hs⟩ := strB_of a0
  obtain ⟨t, rfl, ht⟩ := strB_of a1
  exact (shows_law W s t (PowT.of_shows hL) (MaxI.of_shape hsh)).mono fun _ _ ⟨he, hk⟩ => ⟨he, hk.below⟩
end Go.Proofs.YtammhfnolafknaaDoor
