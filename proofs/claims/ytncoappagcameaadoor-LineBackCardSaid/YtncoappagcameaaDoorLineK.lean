/- Lines: the walks of LineKinds and LineMatches. -/
import Derived.Test.YtncoappagcameaaDoorLineS
set_option linter.unusedVariables false
set_option linter.unusedSimpArgs false
namespace Go.Proofs.YtncoappagcameaaDoor
open Go.RowKit Go.Shelf

theorem codes_at (w : World) (proto : Int) (l : List UInt8) (b : Bool) (hl : l.length ≤ 1099511627) (hm : MaxI w) (h : codesL proto l = b) :
    Calls Tryd.prog 12 #[.int .i64 proto, .string (strB l)] w fun en w' => en = .returned (.bool b) ∧ Kept w w' NoB := h ▸ codes_calls w proto l hl hm
theorem match_at (w : World) (l c : List UInt8) (b : Bool) (hl : l.length ≤ 1099511627) (hm : MaxI w) (h : matchL l c = b) :
    Calls Tryd.prog 15 #[.string (strB l), .string (strB c)] w fun en w' => en = .returned (.bool b) ∧ Kept w w' NoB := h ▸ match_calls w l c hl hm
theorem status_at (w : World) (proto : Int) (s : List UInt8) (r : Option StV) (v : Value) (hl : s.length ≤ 1099511627) (hm : MaxI w) (h : statusL proto s = r) (hv : stR r = v) :
    Calls Tryd.prog 11 #[.int .i64 proto, .string (strB s)] w fun en w' => en = .returned v ∧ Kept w w' NoB := by
  subst h hv
  exact status_calls w proto s hl hm

set_option maxHeartbeats 4000000 in
set_option maxRecDepth 100000 in
theorem kinds_law (w : World) (s0 : List UInt8) (hs : s0.length ≤ 140737488351232) (hm : MaxI w) :
    Calls Tryd.prog 4 #[.string (strB s0)] w fun en w' => en = .returned (.bool true) ∧ Kept w w' NoB := by
  go_enter Tryd.func4, Tryd.ntmps4
  go_wp2_with fail
  refine (shown_calls w hm).mono ?_
  rintro en w1 ⟨rfl, hk1⟩
  have HK1 := Lib.hid hk1
  clear hk1
  go_wp2_with fail
  refine (short_calls w1 s0 hs).mono ?_
  rintro en wx ⟨rfl, rfl⟩
  obtain ⟨s, hse⟩ : ∃ s, s0.take 200 = s := ⟨_, rfl⟩
  have hsl : s.length ≤ 200 := by rw [← hse, List.length_take]; omega
  rw [hse]
  clear hse
  have e0 : statusL 0 s = none := by simp [statusL]
  cases hn : numberedL s with
  | some x =>
    obtain ⟨c, m, t⟩ := x
    have e1 : statusL 1 s = some (c, m, t) := by rw [← hn]; simp [statusL]
    have e3 : statusL 3 s = some (c, m, t) := by rw [← hn]; simp [statusL]
    have e2 : statusL 2 s = none := by
      have := kinds_apart s (by rw [hn]; rfl)
      rw [← this]; simp [statusL]
    have hx := numbered_some hn
    simp only at hx
    obtain ⟨hx0, hx1, hx2, hx3⟩ := hx
    clear hx0
    have k1 := num_codes (p := 1) (.inl rfl) hx1 (by omega)
    have k2 := num_codes2 hx1
    have q3 : ((c.length : Int) == 3) = true := by rw [hx2]; rfl
    have q4 : (t.length : Int) ≤ (s.length : Int) := by omega
    have hcl : c.length ≤ 3 := by omega
    have E0 := Lib.hid e0
    have E1 := Lib.hid e1
    have E2 := Lib.hid e2
    have E3 := Lib.hid e3
    have K1 := Lib.hid k1
    have K2 := Lib.hid k2
    clear e0 e1 e2 e3 k1 k2 hn hx1 hx2 hx3
    go_wp2_with fail
    refine (status_at _ 1 s _ _ (by omega) (hm.kept0 HK1.out) E1.out (stR_mk _ _ _)).mono ?_
    rintro en w2 ⟨rfl, hk2⟩
    have HK2 := Lib.hid (HK1.out.trans' hk2)
    clear hk2
    go_wp2_with fail
    refine (status_at _ 3 s _ _ (by omega) (hm.kept0 (HK2.out.alloc _)) E3.out (stR_mk _ _ _)).mono ?_
    rintro en w3 ⟨rfl, hk3⟩
    have HK3 := Lib.hid ((HK2.out.alloc _).trans' hk3)
    have HA3 := Lib.hid ((Blk.new w2 27 #[.string (strB c), .bool m, .string (strB t)]).kept0 hk3)
    clear hk3
    go_wp2_with fail
    refine (status_at _ 2 s _ _ (by omega) (hm.kept0 (HK3.out.alloc _)) E2.out stR_none).mono ?_
    rintro en w4 ⟨rfl, hk4⟩
    have HK4 := Lib.hid ((HK3.out.alloc _).trans' hk4)
    have HA4 := Lib.hid ((HA3.out.alloc _).kept0 hk4)
    have HB4 := Lib.hid ((Blk.new w3 27 #[.string (strB c), .bool m, .string (strB t)]).kept0 hk4)
    clear hk4
    go_wp2_with fail
    refine (status_at _ 0 s _ _ (by omega) (hm.kept0 (HK4.out.alloc _)) E0.out stR_none).mono ?_
    rintro en w5 ⟨rfl, hk5⟩
    have HK5 := Lib.hid ((HK4.out.alloc _).trans' hk5)
    have HA5 := Lib.hid ((HA4.out.alloc _).kept0 hk5)
    have HB5 := Lib.hid ((HB4.out.alloc _).kept0 hk5)
    obtain ⟨a0, a1, a2, _, _, _⟩ := HA5.out.cells3
    obtain ⟨b0, b1, b2, _, _, _⟩ := HB5.out.cells3
    have la := HA5.out.lt
    have lb := HB5.out.lt
    clear hk5
    go_wp2_with fail
    refine (codes_at _ 1 c _ (by omega) (hm.kept0 (HK5.out.alloc _)) K1.out).mono ?_
    rintro en w6 ⟨rfl, hk6⟩
    have HK6 := Lib.hid ((HK5.out.alloc _).trans' hk6)
    obtain ⟨d0, d1, d2, _, _, _⟩ := ((HA5.out.alloc _).kept0 hk6).cells3
    clear hk6 a0 a1 a2 b0 b1 b2 la lb
    go_wp2_with fail
    refine (codes_at _ 2 c _ (by omega) (hm.kept0 HK6.out) K2.out).mono ?_
    rintro en w7 ⟨rfl, hk7⟩
    have HK7 := Lib.hid (HK6.out.trans' hk7)
    have g0 := (World.cell?_of_block (hk7.block _ (World.block_lt_of_cell? _ _ d0) fun x => x)).trans d0
    have g2 := (World.cell?_of_block (hk7.block _ (World.block_lt_of_cell? _ _ d2) fun x => x)).trans d2
    clear hk7 d0 d1 d2
    go_wp2_with fail
    go_ret
    exact ⟨rfl, HK7.out⟩
  | none =>
    have e1 : statusL 1 s = none := by rw [← hn]; simp [statusL]
    have e3 : statusL 3 s = none := by rw [← hn]; simp [statusL]
    have e2 : statusL 2 s = signedL s := by simp [statusL]
    have E0 := Lib.hid e0
    have E1 := Lib.hid e1
    have E3 := Lib.hid e3
    clear e0 e1 e3 hn
    go_wp2_with fail
    refine (status_at _ 1 s _ _ (by omega) (hm.kept0 HK1.out) E1.out stR_none).mono ?_
    rintro en w2 ⟨rfl, hk2⟩
    have HK2 := Lib.hid (HK1.out.trans' hk2)
    clear hk2
    go_wp2_with fail
    refine (status_at _ 3 s _ _ (by omega) (hm.kept0 (HK2.out.alloc _)) E3.out stR_none).mono ?_
    rintro en w3 ⟨rfl, hk3⟩
    have HK3 := Lib.hid ((HK2.out.alloc _).trans' hk3)
    have HA3 := Lib.hid ((Blk.new w2 27 #[.string ByteArray.empty, .bool false, .string ByteArray.empty]).kept0 hk3)
    clear hk3
    cases hg : signedL s with
    | none =>
      rw [hg] at e2
      have E2 := Lib.hid e2
      clear e2 hg
      go_wp2_with fail
      refine (status_at _ 2 s _ _ (by omega) (hm.kept0 (HK3.out.alloc _)) E2.out stR_none).mono ?_
      rintro en w4 ⟨rfl, hk4⟩
      have HK4 := Lib.hid ((HK3.out.alloc _).trans' hk4)
      have HA4 := Lib.hid ((HA3.out.alloc _).kept0 hk4)
      have HB4 := Lib.hid ((Blk.new w3 27 #[.string ByteArray.empty, .bool false, .string ByteArray.empty]).kept0 hk4)
      clear hk4
      go_wp2_with fail
      refine (status_at _ 0 s _ _ (by omega) (hm.kept0 (HK4.out.alloc _)) E0.out stR_none).mono ?_
      rintro en w5 ⟨rfl, hk5⟩
      have HK5 := Lib.hid ((HK4.out.alloc _).trans' hk5)
      have HA5 := Lib.hid ((HA4.out.alloc _).kept0 hk5)
      have HB5 := Lib.hid ((HB4.out.alloc _).kept0 hk5)
      obtain ⟨a0, a1, a2, _, _, _⟩ := HA5.out.cells3
      obtain ⟨b0, b1, b2, _, _, _⟩ := HB5.out.cells3
      have la := HA5.out.lt
      have lb := HB5.out.lt
      clear hk5
      go_wp2_with fail
      go_ret
      exact ⟨rfl, HK5.out.alloc _⟩
    | some x =>
      obtain ⟨c, m, t⟩ := x
      have hx := signed_some hg
      simp only at hx
      obtain ⟨hx1, rfl⟩ := hx
      have k2 := sign_codes2 hx1
      have hcl : c.length = 1 := by rcases hx1 with h | h | h <;> rw [h] <;> rfl
      have hcl' : c.length ≤ 1 := by omega
      have q1 : ((c.length : Int) == 1) = true := by rw [hcl]; rfl
      rw [hg] at e2
      have E2 := Lib.hid e2
      have K2 := Lib.hid k2
      clear e2 hg hx1 k2 hcl
      go_wp2_with fail
      refine (status_at _ 2 s _ _ (by omega) (hm.kept0 (HK3.out.alloc _)) E2.out (stR_mk _ _ _)).mono ?_
      rintro en w4 ⟨rfl, hk4⟩
      have HK4 := Lib.hid ((HK3.out.alloc _).trans' hk4)
      have HA4 := Lib.hid ((HA3.out.alloc _).kept0 hk4)
      have HB4 := Lib.hid ((Blk.new w3 27 #[.string ByteArray.empty, .bool false, .string ByteArray.empty]).kept0 hk4)
      clear hk4
      go_wp2_with fail
      refine (status_at _ 0 s _ _ (by omega) (hm.kept0 (HK4.out.alloc _)) E0.out stR_none).mono ?_
      rintro en w5 ⟨rfl, hk5⟩
      have HK5 := Lib.hid ((HK4.out.alloc _).trans' hk5)
      have HA5 := Lib.hid ((HA4.out.alloc _).kept0 hk5)
      have HB5 := Lib.hid ((HB4.out.alloc _).kept0 hk5)
      have HC5 := Lib.hid ((Blk.new w4 27 #[.string (strB c), .bool false, .string (strB t)]).kept0 hk5)
      obtain ⟨a0, a1, a2, _, _, _⟩ := HA5.out.cells3
      obtain ⟨b0, b1, b2, _, _, _⟩ := HB5.out.cells3
      obtain ⟨h0, h1, h2, _, _, _⟩ := HC5.out.cells3
      have la := HA5.out.lt
      have lb := HB5.out.lt
      have lc := HC5.out.lt
      clear hk5
      go_wp2_with fail
      refine (codes_at _ 2 c _ (by omega) (hm.kept0 (HK5.out.alloc _)) K2.out).mono ?_
      rintro en w6 ⟨rfl, hk6⟩
      have HK6 := Lib.hid ((HK5.out.alloc _).trans' hk6)
      obtain ⟨d0, d1, d2, _, _, _⟩ := ((HC5.out.alloc _).kept0 hk6).cells3
      clear hk6 a0 a1 a2 b0 b1 b2 la lb h0 h1 h2 lc
      go_wp2_with fail
      go_ret
      exact ⟨rfl, HK6.out⟩
theorem lineKinds_walk (W : World) (a0 : ByteArray) (w0 : a0.size ≤ 140737488351232) (hsh : W.ShapedOpen Tryd.prog) :
    Calls Tryd.prog 4 #[.string a0] W fun en w' => en = .returned (.bool true) ∧ Below W.heap.size W w' := by
  obtain ⟨s, rfl, hs⟩ := strB_of a0
  exact (kinds_law W s (by omega) (MaxI.of_shape hsh)).mono fun _ _ ⟨he, hk⟩ => ⟨he, hk.below⟩

/-! ### LineMatches -/
theorem short_any (w : World) (l : List UInt8) (hl : l.length ≤ 9223372036854775807) :
    Calls Tryd.prog 9 #[.string (strB l)] w fun en w' => en = .returned (.string (strB (l.take 200))) ∧ w' = w := by
  go_enter Tryd.func9, Tryd.ntmps9
  by_cases h : (200 : Int) < (l.length : Int)
  · have he := strB_cut l 0 200
    simp only [List.drop_zero, Nat.sub_zero] at he
    have hz : 200 ≤ l.length := by omega
    go_wp2_with fail
    go_ret
    exact ⟨rfl, rfl⟩
  · have ht : l.take 200 = l := List.take_of_length_le (by omega)
    rw [ht]
    go_wp2_with fail
    go_ret
    exact ⟨rfl, rfl⟩
set_option maxHeartbeats 4000000 in
set_option maxRecDepth 100000 in
theorem matches_law (w : World) (a0 b0 c0 : List UInt8) (proto : Int) (ha : a0.length ≤ 140737488351232) (hb : b0.length ≤ 140737488351232) (hc : c0.length ≤ 9223372036854775807) (hm : MaxI w) :
    Calls Tryd.prog 7 #[.string (strB a0), .string (strB b0), .agg #[.string (strB c0), .int .i64 proto]] w fun en w' => en = .returned (.bool true) ∧ Kept w w' NoB := by
  go_enter Tryd.func7, Tryd.ntmps7
  go_wp2_with fail
  refine (shown_calls _ (hm.kept0 ((Kept.refl _ _).alloc _))).mono ?_
  rintro en w1 ⟨rfl, hk1⟩
  have HK1 := Lib.hid (((Kept.refl w NoB).alloc _).trans' hk1)
  have hb1 := (Blk.new w 37 #[.string (strB c0), .int .i64 proto]).kept0 hk1
  have c0' : w1.cell? ⟨w.heap.size, 0, none⟩ = some (.string (strB c0)) := by rw [hb1.cell]; rfl
  have c1' : w1.cell? ⟨w.heap.size, 1, none⟩ = some (.int .i64 proto) := by rw [hb1.cell]; rfl
  clear hk1 hb1
  go_wp2_with fail
  refine (short_calls w1 a0 ha).mono ?_
  rintro en wx ⟨rfl, rfl⟩
  obtain ⟨a, hae⟩ : ∃ s, a0.take 200 = s := ⟨_, rfl⟩
  have hal : a.length ≤ 200 := by rw [← hae, List.length_take]; omega
  rw [hae]
  clear hae c0' c1'
  go_wp2_with fail
  refine (short_calls wx b0 hb).mono ?_
  rintro en wy ⟨rfl, rfl⟩
  obtain ⟨b, hbe⟩ : ∃ s, b0.take 200 = s := ⟨_, rfl⟩
  have hbl : b.length ≤ 200 := by rw [← hbe, List.length_take]; omega
  rw [hbe]
  clear hbe
  go_wp2_with fail
  refine (short_any wy c0 hc).mono ?_
  rintro en wz ⟨rfl, rfl⟩
  obtain ⟨c, hce⟩ : ∃ s, c0.take 200 = s := ⟨_, rfl⟩
  have hcl : c.length ≤ 200 := by rw [← hce, List.length_take]; omega
  rw [hce]
  clear hce
  have e1 : strB a ++ (⟨#[44]⟩ : ByteArray) = strB (a ++ [44]) := strB_app a [44]
  have e2 : strB (a ++ [44]) ++ strB b = strB (a ++ 44 :: b) := by rw [strB_app]; simp
  have hl2 : (a ++ 44 :: b).length ≤ 401 := by simp; omega
  obtain ⟨m1, hm1⟩ : ∃ x, matchL a c = x := ⟨_, rfl⟩
  obtain ⟨m2, hm2⟩ : ∃ x, matchL b c = x := ⟨_, rfl⟩
  obtain ⟨d1, hd1⟩ : ∃ x, codesL proto a = x := ⟨_, rfl⟩
  obtain ⟨d2, hd2⟩ : ∃ x, codesL proto b = x := ⟨_, rfl⟩
  have hm3 : matchL (a ++ 44 :: b) c = (m1 || m2) := by rw [match_app, hm1, hm2]
  have hd3 : codesL proto (a ++ 44 :: b) = (d1 && d2) := by rw [codes_app, hd1, hd2]
  obtain ⟨ab, hab⟩ : ∃ x, a ++ 44 :: b = x := ⟨_, rfl⟩
  rw [hab] at e2 hl2 hm3 hd3
  have M1 := Lib.hid hm1
  have M2 := Lib.hid hm2
  have M3 := Lib.hid hm3
  have D1 := Lib.hid hd1
  have D2 := Lib.hid hd2
  have D3 := Lib.hid hd3
  have hmz := hm.kept0 HK1.out
  have HMZ := Lib.hid hmz
  have z1 : ¬ (9223372036854775807 < a.length + 1) := by omega
  have z2 : ¬ (9223372036854775807 < a.length + 1 + b.length) := by omega
  clear hm1 hm2 hm3 hd1 hd2 hd3 hab hmz
  go_wp2_with fail
  refine (match_at wz ab c _ (by omega) HMZ.out M3.out).mono ?_
  rintro en w2 ⟨rfl, hk2⟩
  have HK2 := Lib.hid hk2
  clear hk2
  go_wp2_with fail
  refine (match_at w2 a c _ (by omega) (HMZ.out.kept0 HK2.out) M1.out).mono ?_
  rintro en w3 ⟨rfl, hk3⟩
  have HK3 := Lib.hid (HK2.out.trans' hk3)
  clear hk3
  have rest : ∀ (w4 : World), Hid (Kept wz w4 NoB) → True := fun _ _ => trivial
  clear rest
  cases m1
  · go_wp2_with fail
    refine (match_at w3 b c _ (by omega) (HMZ.out.kept0 HK3.out) M2.out).mono ?_
    rintro en w4 ⟨rfl, hk4⟩
    have HK4 := Lib.hid (HK3.out.trans' hk4)
    clear hk4
    cases m2 <;>
    · go_wp2_with fail
      refine (match_at w4 [] c _ (by simp) (HMZ.out.kept0 HK4.out) (match_nil c)).mono ?_
      rintro en w5 ⟨rfl, hk5⟩
      have HK5 := Lib.hid (HK4.out.trans' hk5)
      clear hk5
      go_wp2_with fail
      refine (match_at w5 [44] c _ (by simp) (HMZ.out.kept0 HK5.out) (match_sep c)).mono ?_
      rintro en w6 ⟨rfl, hk6⟩
      have HK6 := Lib.hid (HK5.out.trans' hk6)
      clear hk6
      go_wp2_with fail
      refine (codes_at w6 proto ab _ (by omega) (HMZ.out.kept0 HK6.out) D3.out).mono ?_
      rintro en w7 ⟨rfl, hk7⟩
      have HK7 := Lib.hid (HK6.out.trans' hk7)
      clear hk7
      go_wp2_with fail
      refine (codes_at w7 proto a _ (by omega) (HMZ.out.kept0 HK7.out) D1.out).mono ?_
      rintro en w8 ⟨rfl, hk8⟩
      have HK8 := Lib.hid (HK7.out.trans' hk8)
      clear hk8
      cases d1
      · go_wp2_with fail
        refine (codes_at w8 proto [] _ (by simp) (HMZ.out.kept0 HK8.out) (codes_nil proto)).mono ?_
        rintro en w9 ⟨rfl, hk9⟩
        go_wp2_with fail
        go_ret
        exact ⟨rfl, HK1.out.trans' (HK8.out.trans' hk9)⟩
      · go_wp2_with fail
        refine (codes_at w8 proto b _ (by omega) (HMZ.out.kept0 HK8.out) D2.out).mono ?_
        rintro en w9 ⟨rfl, hk9⟩
        have HK9 := Lib.hid (HK8.out.trans' hk9)
        clear hk9
        cases d2 <;>
        · go_wp2_with fail
          refine (codes_at w9 proto [] _ (by simp) (HMZ.out.kept0 HK9.out) (codes_nil proto)).mono ?_
          rintro en w10 ⟨rfl, hk10⟩
          go_wp2_with fail
          go_ret
          exact ⟨rfl, HK1.out.trans' (HK9.out.trans' hk10)⟩
  · go_wp2_with fail
    refine (match_at w3 [] c _ (by simp) (HMZ.out.kept0 HK3.out) (match_nil c)).mono ?_
    rintro en w5 ⟨rfl, hk5⟩
    have HK5 := Lib.hid (HK3.out.trans' hk5)
    clear hk5
    go_wp2_with fail
    refine (match_at w5 [44] c _ (by simp) (HMZ.out.kept0 HK5.out) (match_sep c)).mono ?_
    rintro en w6 ⟨rfl, hk6⟩
    have HK6 := Lib.hid (HK5.out.trans' hk6)
    clear hk6
    go_wp2_with fail
    refine (codes_at w6 proto ab _ (by omega) (HMZ.out.kept0 HK6.out) D3.out).mono ?_
    rintro en w7 ⟨rfl, hk7⟩
    have HK7 := Lib.hid (HK6.out.trans' hk7)
    clear hk7
    go_wp2_with fail
    refine (codes_at w7 proto a _ (by omega) (HMZ.out.kept0 HK7.out) D1.out).mono ?_
    rintro en w8 ⟨rfl, hk8⟩
    have HK8 := Lib.hid (HK7.out.trans' hk8)
    clear hk8
    cases d1
    · go_wp2_with fail
      refine (codes_at w8 proto [] _ (by simp) (HMZ.out.kept0 HK8.out) (codes_nil proto)).mono ?_
      rintro en w9 ⟨rfl, hk9⟩
      go_wp2_with fail
      go_ret
      exact ⟨rfl, HK1.out.trans' (HK8.out.trans' hk9)⟩
    · go_wp2_with fail
      refine (codes_at w8 proto b _ (by omega) (HMZ.out.kept0 HK8.out) D2.out).mono ?_
      rintro en w9 ⟨rfl, hk9⟩
      have HK9 := Lib.hid (HK8.out.trans' hk9)
      clear hk9
      cases d2 <;>
      · go_wp2_with fail
        refine (codes_at w9 proto [] _ (by simp) (HMZ.out.kept0 HK9.out) (codes_nil proto)).mono ?_
        rintro en w10 ⟨rfl, hk10⟩
        go_wp2_with fail
        go_ret
        exact ⟨rfl, HK1.out.trans' (HK9.out.trans' hk10)⟩
theorem lineMatches_walk (W : World) (a0 a1 a2_0 : ByteArray) (a2_1 : Int) (w0 : a0.size ≤ 140737488351232) (w1 : a1.size ≤ 140737488351232) (w2_0 : a2_0.size ≤ maxLen) (w2_1 : (Lit.int .i64 a2_1).wf = true) (hsh : W.ShapedOpen Tryd.prog) :
    Calls Tryd.prog 7 #[.string a0, .string a1, .agg #[.string a2_0, .int .i64 a2_1]] W fun en w' => en = .returned (.bool true) ∧ Below W.heap.size W w' := by
  obtain ⟨s, rfl, hs⟩ := strB_of a0
  obtain ⟨t, rfl, ht⟩ := strB_of a1
  obtain ⟨u, rfl, hu⟩ := strB_of a2_0
  exact (matches_law W s t u a2_1 (by omega) (by omega) (by unfold maxLen at w2_0; omega) (MaxI.of_shape hsh)).mono fun _ _ ⟨he, hk⟩ => ⟨he, hk.below⟩
end Go.Proofs.YtncoappagcameaaDoor
