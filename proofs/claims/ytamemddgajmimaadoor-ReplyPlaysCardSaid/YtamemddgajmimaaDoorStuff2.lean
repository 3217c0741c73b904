/- The reference's Body.Line; the program's Body.Bytes. -/
import Derived.Test.YtamemddgajmimaaDoorStuff
set_option linter.unusedVariables false
set_option linter.unusedSimpArgs false
namespace Go.Proofs.YtamemddgajmimaaDoor
open Go.RowKit Go.Shelf

theorem b8s_one (l : List UInt8) : ∀ v ∈ b8s l, v.oneCell' = true := by
  intro v hv
  unfold b8s at hv
  obtain ⟨b, _, rfl⟩ := List.mem_map.1 hv
  rfl
theorem dropDot_nil : dropDot [] = [] := rfl
theorem dropDot_dot (r : List UInt8) : dropDot (46 :: r) = r := by
  unfold dropDot
  rw [if_pos (by simp [Lib.hasPrefix])]
  rfl
theorem dropDot_no {c : UInt8} (r : List UInt8) (h : c ≠ 46) : dropDot (c :: r) = c :: r := by
  unfold dropDot
  rw [if_neg]
  intro e
  simp [Lib.hasPrefix] at e
  exact h e.symm
set_option maxHeartbeats 8000000 in
set_option maxRecDepth 100000 in
theorem refLine_calls (w : World) (q most : Nat) (l s : List UInt8) (n : Nat) (v : Value) (r : Bool × Int × List UInt8) (hr : bodyL most l s = r) (h : BdR w 59 q most l n v) (hm : most ≤ 1099511627776) (hl : l.length ≤ most) (hs : s.length ≤ 1099511627776) (hn : n ≤ 1099511627776) :
    Calls Tryd.prog 19 #[.pointer (some ⟨q, 0, none⟩), .string (strB s)] w (LnPost w 59 q most l n v r) := by
  subst hr
  obtain ⟨hb, hrow⟩ := h
  have hsz := strB_size s
  by_cases h46 : s = [46]
  · have t1 : (s == [46]) = true := by rw [beq_iff_eq]; exact h46
    have t2 : (strB s == (⟨#[46]⟩ : ByteArray)) = true := by rw [show (⟨#[46]⟩ : ByteArray) = strB [46] from rfl, strB_beq]; exact decide_eq_true h46
    have hr : bodyL most l s = (true, 0, l) := by unfold bodyL; rw [if_pos h46]
    rw [hr]
    have HB := Lib.hid hb
    have HR := Lib.hid hrow
    clear hb hrow h46 hr
    go_enter Tryd.func19, Tryd.ntmps19
    go_wp2_with fail
    go_ret2
    exact ⟨rfl, v, n, by omega, ⟨HB.out, HR.out⟩, Kept.refl _ _, fun k hk => .inl hk⟩
  · have t1 : (s == [46]) = false := by rw [beq_eq_false_iff_ne]; exact h46
    have t2 : (strB s == (⟨#[46]⟩ : ByteArray)) = false := by rw [show (⟨#[46]⟩ : ByteArray) = strB [46] from rfl, strB_beq]; exact decide_eq_false h46
    have hd := dropDot_len s
    have hbl : bodyL most l s = if most < l.length + (dropDot s ++ [13, 10]).length then (false, 72, l) else (false, 0, l ++ (dropDot s ++ [13, 10])) := by unfold bodyL; rw [if_neg h46]
    have hcase : (s = [] ∧ dropDot s = s) ∨ (∃ c r, s = c :: r ∧ c ≠ 46 ∧ dropDot s = s) ∨ (∃ r, s = 46 :: r ∧ dropDot s = r) := by
      rcases s with _ | ⟨c, r⟩
      · exact .inl ⟨rfl, rfl⟩
      · by_cases h : c = 46
        · subst h
          exact .inr (.inr ⟨r, rfl, dropDot_dot r⟩)
        · exact .inr (.inl ⟨c, r, rfl, h, dropDot_no r h⟩)
    obtain ⟨x, hx⟩ : ∃ x, dropDot s = x := ⟨_, rfl⟩
    rw [hx] at hd hbl hcase
    have hszx := strB_size x
    have e1 : strB x ++ (⟨#[13, 10]⟩ : ByteArray) = strB (x ++ [13, 10]) := strB_app x [13, 10]
    have hxl : (x ++ [13, 10]).length = x.length + 2 := by simp
    have hszy := strB_size (x ++ [13, 10])
    obtain ⟨y, hy⟩ : ∃ y, x ++ [13, 10] = y := ⟨_, rfl⟩
    rw [hy] at e1 hxl hbl hszy
    have z1 : ¬ (9223372036854775807 < x.length + 2) := by omega
    have HB := Lib.hid hb
    have HR := Lib.hid hrow
    obtain ⟨c0, c1, c2, f0, f1, f2⟩ := hb.cells3
    obtain ⟨A, c, rfl, _, hrd⟩ := hrow.readsO (n := l.length) (b8s_length l)
    have HRD := Lib.hid hrd
    have hne : ¬ OB (.slice A l.length c) q := fun h => hrow.ne_blk hb (by decide) h
    have HNE := Lib.hid hne
    have hqlt := hb.lt
    have hqn : ¬ q = w.heap.size := by omega
    clear hb hrow hx hy h46 hne hrd
    by_cases hfull : most < l.length + y.length
    · rw [if_pos hfull] at hbl
      rw [hbl]
      have t3 : (most : Int) - (l.length : Int) < (x.length : Int) + 2 := by omega
      clear hbl hfull
      rcases hcase with ⟨h0, hxs⟩ | ⟨b, r, h0, hb46, hxs⟩ | ⟨r, h0, hxs⟩
      · have k1 : ¬ (0 : Int) < (s.length : Int) := by rw [h0]; decide
        obtain rfl : x = s := hxs
        clear h0
        go_enter Tryd.func19, Tryd.ntmps19
        go_wp2_with fail
        go_quiet (fail)
        go_wp2_with fail
        go_ret2
        exact ⟨rfl, _, n, by omega, ⟨HB.out, HR.out⟩, (Kept.refl _ _).drewN _, fun k hk => .inl hk⟩
      · have k1 : (0 : Int) < (s.length : Int) := by rw [h0]; simp
        have kz : 0 < (strB s).size := by rw [strB_size]; omega
        have kb : ((strB s)[0]'kz) = b := by
          have := strB_getI s 0 kz
          rw [this]
          simp [h0]
        obtain ⟨z, hz⟩ : ∃ z : Nat, b.toNat = z := ⟨_, rfl⟩
        have kb' : ((strB s)[0]'kz).toNat = z := by rw [kb, hz]
        have k2 : ((z : Int) == 46) = false := by
          rw [beq_eq_false_iff_ne]
          intro e
          exact hb46 (UInt8.toNat_inj.1 (by rw [hz]; show z = 46; omega))
        obtain rfl : x = s := hxs
        clear h0 kb hz hb46
        go_enter Tryd.func19, Tryd.ntmps19
        go_wp2_with fail
        go_quiet (fail)
        go_wp2_with fail
        go_ret2
        exact ⟨rfl, _, n, by omega, ⟨HB.out, HR.out⟩, (Kept.refl _ _).drewN _, fun k hk => .inl hk⟩
      · have k1 : (0 : Int) < (s.length : Int) := by rw [h0]; simp
        have kz : 0 < (strB s).size := by rw [strB_size]; omega
        have kb : ((strB s)[0]'kz) = 46 := by
          have := strB_getI s 0 kz
          rw [this]
          simp [h0]
        have kb' : ((strB s)[0]'kz).toNat = 46 := by rw [kb]; rfl
        have kc : (strB s).extract 1 s.length = strB x := by
          rw [strB_cut, hxs, h0]
          simp
        have ks : 1 ≤ s.length := by omega
        clear h0 kb hxs
        go_enter Tryd.func19, Tryd.ntmps19
        go_wp2_with fail
        go_quiet (fail)
        go_wp2_with fail
        go_ret2
        exact ⟨rfl, _, n, by omega, ⟨HB.out, HR.out⟩, (Kept.refl _ _).drewN _, fun k hk => .inl hk⟩
    · rw [if_neg hfull] at hbl
      rw [hbl]
      have t3 : ¬ (most : Int) - (l.length : Int) < (x.length : Int) + 2 := by omega
      have hyl : l.length + y.length ≤ 140737488355328 := by omega
      clear hbl hfull
      rcases hcase with ⟨h0, hxs⟩ | ⟨b, r, h0, hb46, hxs⟩ | ⟨r, h0, hxs⟩
      · have k1 : ¬ (0 : Int) < (s.length : Int) := by rw [h0]; decide
        obtain rfl : x = s := hxs
        clear h0
        go_enter Tryd.func19, Tryd.ntmps19
        go_wp2_with fail
        go_quiet (fail)
        have HB5 := Lib.hid (HB.out.kept0 (((Kept.refl w NoB).drewN nq).alloc (.cells #[] 5)))
        obtain ⟨g0, g1, g2, i0, i1, i2⟩ := HB5.out.cells3
        clear c0 c1 c2 f0 f1 f2
        have HMADE := Lib.hid (Row.made0 (w.drewN nq) 5 anyB trivial)
        have HRD5 := Lib.hid ((HRD.out.drewN nq).alloc (.cells #[] 5))
        go_wp2_with (at_builtin; refine wpList_appN (W := (w.drewN nq).alloc (.cells #[] 5)) rfl _ _ 28 5 (.int .u8 0) 1 rfl Tryd.underlying28 info_u8 rfl (by decide) anyB (OB (.slice A l.length c)) (.slice (some ⟨w.heap.size, 0, none⟩) 0 0) [] (b8s l) A l.length c rfl rfl (b8s_one l) HMADE.out HRD5.out (fun _ _ => trivial) (by simp only [List.length_nil]; omega) ?_)
        intro v6 w6 hown6 hk6 hob6
        have hT : ∀ b, OB (.slice (some ⟨w.heap.size, 0, none⟩) 0 0) b → b = w.heap.size := fun b hb => by
          have : w.heap.size = b := by simpa [OB, Value.ownBlock] using hb
          omega
        have HB6 := Lib.hid (HB5.out.kept hk6 fun h => by have := hT _ h; omega)
        have HK6 := Lib.hid ((((Kept.refl w (fun k => k = q ∨ OB (.slice A l.length c) k)).drewN nq).alloc (.cells #[] 5)).trans hk6 fun b hb => .inr (by have := hT b hb; omega))
        have HOB6 : Hid (∀ k, OB v6 k → w.heap.size ≤ k) := fun k hk => by
          rcases hob6 k hk with h | h
          · have := hT k h; omega
          · omega
        obtain ⟨A6, n6, c6, rfl⟩ := hown6.slice
        have HOWN6 := Lib.hid hown6
        clear hown6 hk6 hob6 hT
        go_wp2_with (at_builtin; refine wpList_appS (W := w6) rfl _ _ rfl anyB (.slice A6 n6 c6) l y rfl rfl HOWN6.out (fun _ _ => trivial) hyl ?_)
        intro v1 w1 hown hkp hob
        have hb1 := HB6.out.kept hkp fun h => by have := HOB6.out q h; omega
        obtain ⟨d0, d1, d2, j0, j1, j2⟩ := hb1.cells3
        have HOWN := Lib.hid hown
        have HKP := Lib.hid (HK6.out.trans hkp fun b hb => .inr (HOB6.out b hb))
        have HS6 := HK6.out.size
        have HOB : Hid (∀ k, OB v1 k → OB (.slice A l.length c) k ∨ w.heap.size ≤ k) := fun k hk => .inr ((hob k hk).elim (HOB6.out k) fun h => Nat.le_trans HS6 h)
        have HB1 := Lib.hid hb1
        obtain ⟨A1, n1, c1x, hv1⟩ := hown.slice
        have hne1 : v1.ownBlock ≠ some q := fun h => hown.ne_blk hb1 (by decide) h
        have HNE1 := Lib.hid hne1
        subst hv1
        clear hown hkp hob hb1 hne1
        go_wp2_with fail
        go_ret2
        refine ⟨rfl, _, n + 1, by omega, ⟨?_, (HOWN.out.far (p := ⟨q, 0, none⟩) HNE1.out _).far (p := ⟨q, 1, none⟩) HNE1.out _⟩, (HKP.out.setCell (p := ⟨q, 0, none⟩) (.inl (.inl rfl)) _).setCell (p := ⟨q, 1, none⟩) (.inl (.inl rfl)) _, HOB.out⟩
        exact (HB1.out.set_ 0 (.slice A1 n1 c1x)).set_ 1 (.int .i64 ((n + 1 : Nat) : Int))
      · have k1 : (0 : Int) < (s.length : Int) := by rw [h0]; simp
        have kz : 0 < (strB s).size := by rw [strB_size]; omega
        have kb : ((strB s)[0]'kz) = b := by
          have := strB_getI s 0 kz
          rw [this]
          simp [h0]
        obtain ⟨z, hz⟩ : ∃ z : Nat, b.toNat = z := ⟨_, rfl⟩
        have kb' : ((strB s)[0]'kz).toNat = z := by rw [kb, hz]
        have k2 : ((z : Int) == 46) = false := by
          rw [beq_eq_false_iff_ne]
          intro e
          exact hb46 (UInt8.toNat_inj.1 (by rw [hz]; show z = 46; omega))
        obtain rfl : x = s := hxs
        clear h0 kb hz hb46
        go_enter Tryd.func19, Tryd.ntmps19
        go_wp2_with fail
        go_quiet (fail)
        have HB5 := Lib.hid (HB.out.kept0 (((Kept.refl w NoB).drewN nq).alloc (.cells #[] 5)))
        obtain ⟨g0, g1, g2, i0, i1, i2⟩ := HB5.out.cells3
        clear c0 c1 c2 f0 f1 f2
        have HMADE := Lib.hid (Row.made0 (w.drewN nq) 5 anyB trivial)
        have HRD5 := Lib.hid ((HRD.out.drewN nq).alloc (.cells #[] 5))
        go_wp2_with (at_builtin; refine wpList_appN (W := (w.drewN nq).alloc (.cells #[] 5)) rfl _ _ 28 5 (.int .u8 0) 1 rfl Tryd.underlying28 info_u8 rfl (by decide) anyB (OB (.slice A l.length c)) (.slice (some ⟨w.heap.size, 0, none⟩) 0 0) [] (b8s l) A l.length c rfl rfl (b8s_one l) HMADE.out HRD5.out (fun _ _ => trivial) (by simp only [List.length_nil]; omega) ?_)
        intro v6 w6 hown6 hk6 hob6
        have hT : ∀ b, OB (.slice (some ⟨w.heap.size, 0, none⟩) 0 0) b → b = w.heap.size := fun b hb => by
          have : w.heap.size = b := by simpa [OB, Value.ownBlock] using hb
          omega
        have HB6 := Lib.hid (HB5.out.kept hk6 fun h => by have := hT _ h; omega)
        have HK6 := Lib.hid ((((Kept.refl w (fun k => k = q ∨ OB (.slice A l.length c) k)).drewN nq).alloc (.cells #[] 5)).trans hk6 fun b hb => .inr (by have := hT b hb; omega))
        have HOB6 : Hid (∀ k, OB v6 k → w.heap.size ≤ k) := fun k hk => by
          rcases hob6 k hk with h | h
          · have := hT k h; omega
          · omega
        obtain ⟨A6, n6, c6, rfl⟩ := hown6.slice
        have HOWN6 := Lib.hid hown6
        clear hown6 hk6 hob6 hT
        go_wp2_with (at_builtin; refine wpList_appS (W := w6) rfl _ _ rfl anyB (.slice A6 n6 c6) l y rfl rfl HOWN6.out (fun _ _ => trivial) hyl ?_)
        intro v1 w1 hown hkp hob
        have hb1 := HB6.out.kept hkp fun h => by have := HOB6.out q h; omega
        obtain ⟨d0, d1, d2, j0, j1, j2⟩ := hb1.cells3
        have HOWN := Lib.hid hown
        have HKP := Lib.hid (HK6.out.trans hkp fun b hb => .inr (HOB6.out b hb))
        have HS6 := HK6.out.size
        have HOB : Hid (∀ k, OB v1 k → OB (.slice A l.length c) k ∨ w.heap.size ≤ k) := fun k hk => .inr ((hob k hk).elim (HOB6.out k) fun h => Nat.le_trans HS6 h)
        have HB1 := Lib.hid hb1
        obtain ⟨A1, n1, c1x, hv1⟩ := hown.slice
        have hne1 : v1.ownBlock ≠ some q := fun h => hown.ne_blk hb1 (by decide) h
        have HNE1 := Lib.hid hne1
        subst hv1
        clear hown hkp hob hb1 hne1
        go_wp2_with fail
        go_ret2
        refine ⟨rfl, _, n + 1, by omega, ⟨?_, (HOWN.out.far (p := ⟨q, 0, none⟩) HNE1.out _).far (p := ⟨q, 1, none⟩) HNE1.out _⟩, (HKP.out.setCell (p := ⟨q, 0, none⟩) (.inl (.inl rfl)) _).setCell (p := ⟨q, 1, none⟩) (.inl (.inl rfl)) _, HOB.out⟩
        exact (HB1.out.set_ 0 (.slice A1 n1 c1x)).set_ 1 (.int .i64 ((n + 1 : Nat) : Int))
      · have k1 : (0 : Int) < (s.length : Int) := by rw [h0]; simp
        have kz : 0 < (strB s).size := by rw [strB_size]; omega
        have kb : ((strB s)[0]'kz) = 46 := by
          have := strB_getI s 0 kz
          rw [this]
          simp [h0]
        have kb' : ((strB s)[0]'kz).toNat = 46 := by rw [kb]; rfl
        have kc : (strB s).extract 1 s.length = strB x := by
          rw [strB_cut, hxs, h0]
          simp
        have ks : 1 ≤ s.length := by omega
        clear h0 kb hxs
        go_enter Tryd.func19, Tryd.ntmps19
        go_wp2_with fail
        go_quiet (fail)
        have HB5 := Lib.hid (HB.out.kept0 (((Kept.refl w NoB).drewN nq).alloc (.cells #[] 5)))
        obtain ⟨g0, g1, g2, i0, i1, i2⟩ := HB5.out.cells3
        clear c0 c1 c2 f0 f1 f2
        have HMADE := Lib.hid (Row.made0 (w.drewN nq) 5 anyB trivial)
        have HRD5 := Lib.hid ((HRD.out.drewN nq).alloc (.cells #[] 5))
        go_wp2_with (at_builtin; refine wpList_appN (W := (w.drewN nq).alloc (.cells #[] 5)) rfl _ _ 28 5 (.int .u8 0) 1 rfl Tryd.underlying28 info_u8 rfl (by decide) anyB (OB (.slice A l.length c)) (.slice (some ⟨w.heap.size, 0, none⟩) 0 0) [] (b8s l) A l.length c rfl rfl (b8s_one l) HMADE.out HRD5.out (fun _ _ => trivial) (by simp only [List.length_nil]; omega) ?_)
        intro v6 w6 hown6 hk6 hob6
        have hT : ∀ b, OB (.slice (some ⟨w.heap.size, 0, none⟩) 0 0) b → b = w.heap.size := fun b hb => by
          have : w.heap.size = b := by simpa [OB, Value.ownBlock] using hb
          omega
        have HB6 := Lib.hid (HB5.out.kept hk6 fun h => by have := hT _ h; omega)
        have HK6 := Lib.hid ((((Kept.refl w (fun k => k = q ∨ OB (.slice A l.length c) k)).drewN nq).alloc (.cells #[] 5)).trans hk6 fun b hb => .inr (by have := hT b hb; omega))
        have HOB6 : Hid (∀ k, OB v6 k → w.heap.size ≤ k) := fun k hk => by
          rcases hob6 k hk with h | h
          · have := hT k h; omega
          · omega
        obtain ⟨A6, n6, c6, rfl⟩ := hown6.slice
        have HOWN6 := Lib.hid hown6
        clear hown6 hk6 hob6 hT
        go_wp2_with (at_builtin; refine wpList_appS (W := w6) rfl _ _ rfl anyB (.slice A6 n6 c6) l y rfl rfl HOWN6.out (fun _ _ => trivial) hyl ?_)
        intro v1 w1 hown hkp hob
        have hb1 := HB6.out.kept hkp fun h => by have := HOB6.out q h; omega
        obtain ⟨d0, d1, d2, j0, j1, j2⟩ := hb1.cells3
        have HOWN := Lib.hid hown
        have HKP := Lib.hid (HK6.out.trans hkp fun b hb => .inr (HOB6.out b hb))
        have HS6 := HK6.out.size
        have HOB : Hid (∀ k, OB v1 k → OB (.slice A l.length c) k ∨ w.heap.size ≤ k) := fun k hk => .inr ((hob k hk).elim (HOB6.out k) fun h => Nat.le_trans HS6 h)
        have HB1 := Lib.hid hb1
        obtain ⟨A1, n1, c1x, hv1⟩ := hown.slice
        have hne1 : v1.ownBlock ≠ some q := fun h => hown.ne_blk hb1 (by decide) h
        have HNE1 := Lib.hid hne1
        subst hv1
        clear hown hkp hob hb1 hne1
        go_wp2_with fail
        go_ret2
        refine ⟨rfl, _, n + 1, by omega, ⟨?_, (HOWN.out.far (p := ⟨q, 0, none⟩) HNE1.out _).far (p := ⟨q, 1, none⟩) HNE1.out _⟩, (HKP.out.setCell (p := ⟨q, 0, none⟩) (.inl (.inl rfl)) _).setCell (p := ⟨q, 1, none⟩) (.inl (.inl rfl)) _, HOB.out⟩
        exact (HB1.out.set_ 0 (.slice A1 n1 c1x)).set_ 1 (.int .i64 ((n + 1 : Nat) : Int))
end Go.Proofs.YtamemddgajmimaaDoor
