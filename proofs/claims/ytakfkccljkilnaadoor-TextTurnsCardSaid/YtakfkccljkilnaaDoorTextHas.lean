/- TextHas' walk. -/
import Derived.Test.YtakfkccljkilnaaDoorTextN2
import Derived.Test.YtakfkccljkilnaaDoorRowW
set_option linter.unusedVariables false
set_option linter.unusedSimpArgs false
namespace Go.Proofs.YtakfkccljkilnaaDoor
open Go.RowKit Go.Shelf

theorem strB_app (l m : List UInt8) : strB l ++ strB m = strB (l ++ m) := by
  apply ByteArray.ext
  simp [strB]
theorem has_law1 {s p : List UInt8} (h : p <:+: s) : hasTx s p = true ∧ hasTx s (upL p) = true ∧ hasTx (upL s) p = true ∧ hasTx s [] = true := by
  refine ⟨contains_true (upL_infix h), ?_, ?_, contains_true (List.nil_infix)⟩
  · unfold hasTx
    rw [upL_up2]
    exact contains_true (upL_infix h)
  · unfold hasTx
    rw [upL_up2]
    exact contains_true (upL_infix h)
theorem has_law2 {s p : List UInt8} (h : p.length ≤ s.length) (c : UInt8) : hasTx p (s ++ [c]) = false := by
  refine contains_false fun e => ?_
  have := e.length_le
  rw [upL_length, upL_length] at this
  simp at this
  omega

set_option maxHeartbeats 4000000 in
set_option maxRecDepth 100000 in
theorem has_law (w : World) (s0 : List UInt8) (x y : Nat) (hs : s0.length ≤ 140737488351232) (hx : x ≤ 65535) (hy : y ≤ 65535) (hm : MaxI w) :
    Calls Tryd.prog 7 #[.string (strB s0), .agg #[.int .u16 x, .int .u16 y]] w fun en w' => en = .returned (.bool true) ∧ Kept w w' NoB := by
  obtain ⟨W, hW⟩ : ∃ W, w.alloc (.cells #[.int .u16 x, .int .u16 y] 35) = W := ⟨_, rfl⟩
  have hkW : Kept w W NoB := by rw [← hW]; exact (Kept.refl _ _).alloc _
  have hbW : Blk W w.heap.size 35 #[.int .u16 x, .int .u16 y] := by rw [← hW]; exact Blk.new _ _ _
  have HK0 := Lib.hid hkW
  have HB0 := Lib.hid hbW
  clear hkW hbW
  go_enter Tryd.func7, Tryd.ntmps7
  go_wp2_with fail
  refine (shown_calls W (hm.kept0 HK0.out)).mono ?_
  rintro en w1 ⟨rfl, hk1⟩
  have HK1 := Lib.hid (HK0.out.trans' hk1)
  have hb1 := HB0.out.kept0 hk1
  have c0 : w1.cell? ⟨w.heap.size, 0, none⟩ = some (.int .u16 x) := by rw [hb1.cell]; rfl
  have c1 : w1.cell? ⟨w.heap.size, 1, none⟩ = some (.int .u16 y) := by rw [hb1.cell]; rfl
  clear hk1 hb1
  go_wp2_with fail
  refine (short_calls w1 s0 hs).mono ?_
  rintro en wx ⟨rfl, rfl⟩
  obtain ⟨s, hse⟩ : ∃ s, s0.take 400 = s := ⟨_, rfl⟩
  have hsl : s.length ≤ 400 := by rw [← hse, List.length_take]; omega
  rw [hse]
  clear hse
  obtain ⟨i, hi⟩ : ∃ i, x % (s.length + 1) = i := ⟨_, rfl⟩
  have hil : i ≤ s.length := by have := Nat.mod_lt x (show 0 < s.length + 1 by omega); omega
  have hiI : (x : Int) % ((s.length : Int) + 1) = (i : Int) := by rw [← hi]; simp
  obtain ⟨n, hn⟩ : ∃ n, y % (s.length - i + 1) = n := ⟨_, rfl⟩
  have hnl : n ≤ s.length - i := by have := Nat.mod_lt y (show 0 < s.length - i + 1 by omega); omega
  have hnI : (y : Int) % ((s.length : Int) - (i : Int) + 1) = (n : Int) := by
    rw [← hn]
    have e : (s.length : Int) - (i : Int) + 1 = ((s.length - i + 1 : Nat) : Int) := by omega
    rw [e]
    simp
  have hp1 : ((s.length : Int) + 1) > 0 := by omega
  have hp2 : ((s.length : Int) - (i : Int) + 1) > 0 := by omega
  have he1 : ((s.length : Int) + 1 == 0) = false := by rw [beq_eq_false_iff_ne]; omega
  have he2 : ((s.length : Int) - (i : Int) + 1 == 0) = false := by rw [beq_eq_false_iff_ne]; omega
  have hcut := strB_cut s i (i + n)
  rw [show i + n - i = n by omega] at hcut
  obtain ⟨p, hp⟩ : ∃ p, (s.drop i).take n = p := ⟨_, rfl⟩
  have hpl : p.length ≤ s.length := by rw [← hp, List.length_take, List.length_drop]; omega
  have hinf : p <:+: s := by rw [← hp]; exact (List.take_prefix _ _).isInfix.trans (List.drop_suffix _ _).isInfix
  rw [hp] at hcut
  have H1 := Lib.hid (has_law1 hinf)
  have H2 := Lib.hid (has_law2 hpl 120)
  have HINF := Lib.hid hinf
  have ups := upL_up2 p
  have upl := upL_length p
  obtain ⟨u, hu⟩ : ∃ u, upL p = u := ⟨_, rfl⟩
  rw [hu] at ups upl H1
  have HU := Lib.hid hu
  have HUP := Lib.hid ups
  obtain ⟨us, hus⟩ : ∃ us, upL s = us := ⟨_, rfl⟩
  have usl := upL_length s
  rw [hus] at usl H1
  have HUS := Lib.hid hus
  have e1 : strB s ++ (⟨#[120]⟩ : ByteArray) = strB (s ++ [120]) := strB_app s [120]
  clear hi hn hp hinf ups hu hus
  go_wp2_with fail
  refine (upper_calls wx p (by omega)).mono ?_
  rw [HU.out]
  rintro en w2 ⟨rfl, hk2⟩
  have HK2 := Lib.hid (HK1.out.trans' hk2)
  clear hk2
  go_wp2_with fail
  refine (hasT_calls w2 s p (by omega) (by omega) (hm.kept0 HK2.out)).mono ?_
  rw [H1.out.1]
  rintro en w3 ⟨rfl, hk3⟩
  have HK3 := Lib.hid (HK2.out.trans' hk3)
  clear hk3
  go_wp2_with fail
  refine (hasT_calls w3 s u (by omega) (by omega) (hm.kept0 HK3.out)).mono ?_
  rw [H1.out.2.1]
  rintro en w4 ⟨rfl, hk4⟩
  have HK4 := Lib.hid (HK3.out.trans' hk4)
  clear hk4
  go_wp2_with fail
  refine (upper_calls w4 s (by omega)).mono ?_
  rw [HUS.out]
  rintro en w5 ⟨rfl, hk5⟩
  have HK5 := Lib.hid (HK4.out.trans' hk5)
  clear hk5
  go_wp2_with fail
  refine (hasT_calls w5 us p (by omega) (by omega) (hm.kept0 HK5.out)).mono ?_
  rw [H1.out.2.2.1]
  rintro en w6 ⟨rfl, hk6⟩
  have HK6 := Lib.hid (HK5.out.trans' hk6)
  clear hk6
  go_wp2_with fail
  refine (hasT_calls w6 s [] (by omega) (by decide) (hm.kept0 HK6.out)).mono ?_
  rw [H1.out.2.2.2]
  rintro en w7 ⟨rfl, hk7⟩
  have HK7 := Lib.hid (HK6.out.trans' hk7)
  clear hk7
  go_wp2_with fail
  refine (hasT_calls w7 p (s ++ [120]) (by omega) (by simp; omega) (hm.kept0 HK7.out)).mono ?_
  rw [H2.out]
  rintro en w8 ⟨rfl, hk8⟩
  have HK8 := Lib.hid (HK7.out.trans' hk8)
  clear hk8
  go_wp2_with fail
  refine (upper_calls w8 u (by omega)).mono ?_
  rw [HUP.out]
  rintro en w9 ⟨rfl, hk9⟩
  have HK9 := Lib.hid (HK8.out.trans' hk9)
  clear hk9
  obtain ⟨p1, hp1⟩ : ∃ b, prL p = b := ⟨_, rfl⟩
  obtain ⟨p2, hp2⟩ : ∃ b, prL s = b := ⟨_, rfl⟩
  have hpp : p1 = false → p2 = false := by
    intro h
    rw [← hp2]
    rw [← hp1] at h
    cases h2 : prL s with
    | false => rfl
    | true => rw [prL_infix HINF.out h2] at h; cases h
  have HP1 := Lib.hid hp1
  have HP2 := Lib.hid hp2
  have hul : ((u.length : Int) == (p.length : Int)) = true := by rw [upl]; simp
  clear hp1 hp2
  go_wp2_with fail
  refine (plain_calls w9 p (by omega)).mono ?_
  rw [HP1.out]
  rintro en w10 ⟨rfl, hk10⟩
  have HK10 := Lib.hid (HK9.out.trans' hk10)
  clear hk10
  cases p1
  · have hp2f := hpp rfl
    subst hp2f
    go_wp2_with fail
    refine (plain_calls w10 s (by omega)).mono ?_
    rw [HP2.out]
    rintro en w11 ⟨rfl, hk11⟩
    have HK11 := Lib.hid (HK10.out.trans' hk11)
    clear hk11
    go_wp2_with fail
    go_ret
    exact ⟨rfl, HK11.out⟩
  · go_wp2_with fail
    go_ret
    exact ⟨rfl, HK10.out⟩

theorem textHas_walk (W : World) (a0 : ByteArray) (a1_0 a1_1 : Int) (w0 : a0.size ≤ 140737488351232) (w1_0 : (Lit.int .u16 a1_0).wf = true) (w1_1 : (Lit.int .u16 a1_1).wf = true) (hsh : W.ShapedOpen Tryd.prog) :
    Calls Tryd.prog 7 #[.string a0, .agg #[.int .u16 a1_0, .int .u16 a1_1]] W fun en w' => en = .returned (.bool true) ∧ Below W.heap.size W w' := by
  obtain ⟨s, rfl, hs⟩ := strB_of a0
  simp only [Lit.wf, Bool.and_eq_true, decide_eq_true_eq] at w1_0 w1_1
  have h1 : 0 ≤ a1_0 ∧ a1_0 ≤ 65535 := w1_0
  have h2 : 0 ≤ a1_1 ∧ a1_1 ≤ 65535 := w1_1
  obtain ⟨m1, rfl⟩ := Int.eq_ofNat_of_zero_le h1.1
  obtain ⟨m2, rfl⟩ := Int.eq_ofNat_of_zero_le h2.1
  exact (has_law W s m1 m2 (by omega) (by omega) (by omega) (MaxI.of_shape hsh)).mono fun _ _ ⟨he, hk⟩ => ⟨he, hk.below⟩
end Go.Proofs.YtakfkccljkilnaaDoor
