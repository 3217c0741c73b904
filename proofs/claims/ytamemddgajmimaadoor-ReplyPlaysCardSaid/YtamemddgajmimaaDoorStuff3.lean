/- Body.Bytes; the maker's bodied. -/
import Derived.Test.YtamemddgajmimaaDoorStuff2
import Derived.Lib.SliceRun
set_option linter.unusedVariables false
set_option linter.unusedSimpArgs false
namespace Go.Proofs.YtamemddgajmimaaDoor
open Go.RowKit Go.Shelf

set_option maxHeartbeats 2000000 in
set_option maxRecDepth 100000 in
theorem clone_calls (w : World) (S : Nat → Prop) (A : Option Addr) (n c : Nat) (l : List UInt8) (hA : Reads w S A n (b8s l)) (hn : n ≤ 1099511627776) :
    Calls Tryd.prog 38 #[.slice A n c] w fun en w' => ∃ v', en = .returned v' ∧ Row w' 5 (fun k => w.heap.size ≤ k) v' (b8s l) ∧ Kept w w' NoB := by
  have q22 : ∀ (w : World) (a : Option Addr) (n c n' c' : Nat), (binOp .eql 28 (.slice a n c) (.slice none n' c')).run Tryd.prog w = .ok (.bool a.isNone) w := fun w a n c n' c' => Lib.run_eql_slice_nil w _ _ a n c n' c' Tryd.underlying28
  have HA := Lib.hid hA
  have hln : l.length = n := by have := hA.1; rwa [b8s_length] at this
  have HLN := Lib.hid hln
  cases A with
  | none =>
    have h0 : n = 0 := by
      rcases Nat.eq_zero_or_pos n with h | h
      · exact h
      · obtain ⟨ad, e, _⟩ := hA.2 h
        cases e
    have hl0 : l = [] := List.eq_nil_of_length_eq_zero (by omega)
    subst hl0
    clear hA h0 hln
    go_enter Tryd.func38, Tryd.ntmps38
    go_wp2_with fail
    go_ret
    exact ⟨_, rfl, Row.nil _ _ _, Kept.refl _ _⟩
  | some ad =>
    clear hA hln
    have HMADE := Lib.hid (Row.made0 w 5 (fun k => w.heap.size ≤ k) (Nat.le_refl _))
    have HA1 := Lib.hid (HA.out.alloc (.cells #[] 5))
    go_enter Tryd.func38, Tryd.ntmps38
    go_wp2_with (at_builtin; refine wpList_appN (W := w.alloc (.cells #[] 5)) rfl _ _ 28 5 (.int .u8 0) 1 rfl Tryd.underlying28 info_u8 rfl (by decide) (fun k => w.heap.size ≤ k) S (.slice (some ⟨w.heap.size, 0, none⟩) 0 0) [] (b8s l) (some ad) n c rfl rfl (b8s_one l) HMADE.out HA1.out (fun k hk => by simp only [World.size_alloc] at hk; omega) (by simp only [List.length_nil]; omega) ?_)
    intro v1 w1 hown hkp hob
    have HOWN := Lib.hid hown
    have HKP : Hid (Kept w w1 NoB) := ((Kept.refl w NoB).alloc (.cells #[] 5)).trans hkp fun b hb => .inr (by
      have : w.heap.size = b := by simpa [OB, Value.ownBlock] using hb
      omega)
    clear hown hkp hob
    go_wp2_with fail
    go_ret
    exact ⟨_, rfl, HOWN.out, HKP.out⟩
set_option maxHeartbeats 1000000 in
set_option maxRecDepth 100000 in
theorem bytes_calls (w : World) (q most : Nat) (l : List UInt8) (n : Nat) (v : Value) (h : BdR w 68 q most l n v) (hl : l.length ≤ 1099511627776) :
    Calls Tryd.prog 34 #[.pointer (some ⟨q, 0, none⟩)] w fun en w' => ∃ v', en = .returned v' ∧ Row w' 5 (fun k => w.heap.size ≤ k) v' (b8s l) ∧ Kept w w' NoB := by
  obtain ⟨hb, hrow⟩ := h
  obtain ⟨c0, c1, c2, f0, f1, f2⟩ := hb.cells3
  obtain ⟨A, c, rfl, _, hrd⟩ := hrow.readsN (n := l.length) (b8s_length l)
  have HRD := Lib.hid hrd
  clear hb hrow hrd
  go_enter Tryd.func34, Tryd.ntmps34
  go_wp2_with fail
  refine (clone_calls w anyB A l.length c l HRD.out hl).mono ?_
  rintro en w' ⟨v', rfl, hr, hk⟩
  have HR := Lib.hid hr
  have HK := Lib.hid hk
  clear hr hk
  go_wp2_with fail
  go_ret
  exact ⟨_, rfl, HR.out, HK.out⟩
def bodiedF (g : Nat) : Value := .func (.func 27) #[.pointer (some ⟨g, 0, none⟩)] #[]
set_option maxHeartbeats 2000000 in
set_option maxRecDepth 100000 in
theorem bodied_on (w : World) (g q most : Nat) (a b v d f : Value) (l s : List UInt8) (n : Nat) (vb : Value) (e : Int) (l' : List UInt8) (hr : bodyL most l s = (false, e, l')) (hb : Blk w g 51 #[a, b, v, d, .pointer (some ⟨q, 0, none⟩), f]) (h : BdR w 68 q most l n vb) (hm : most ≤ 1099511627776) (hl : l.length ≤ most) (hs : s.length ≤ 1099511627776) (hn : n ≤ 1099511627776) :
    Calls Tryd.prog 27 #[.pointer (some ⟨g, 0, none⟩), .string (strB s)] w fun en w' => en = .returned (.tuple #[.bool false, .int .i64 e]) ∧ ∃ vb' n', n' ≤ n + 1 ∧ BdR w' 68 q most l' n' vb' ∧ Kept w w' (fun k => k = q ∨ OB vb k) ∧ ∀ k, OB vb' k → OB vb k ∨ w.heap.size ≤ k := by
  obtain ⟨⟨_, _, _, _, c4, _⟩, _⟩ := hb.cells6
  have hc := stuffLine_calls w q most l s n vb _ hr h hm hl hs hn
  have HC := Lib.hid hc
  clear hb h hr hc
  go_enter Tryd.func27, Tryd.ntmps27
  go_wp2_with fail
  refine HC.out.mono ?_
  rintro en w1 ⟨rfl, v1, n1, hn1, hB, hk, ho⟩
  have HB := Lib.hid hB
  have HK := Lib.hid hk
  have HO := Lib.hid ho
  clear hB hk ho c4
  go_wp2_with fail
  go_ret2
  exact ⟨rfl, v1, n1, hn1, HB.out, HK.out, HO.out⟩
set_option maxHeartbeats 2000000 in
set_option maxRecDepth 100000 in
theorem bodied_end (w : World) (g q most : Nat) (a b v d f : Value) (l : List UInt8) (n : Nat) (vb : Value) (hb : Blk w g 51 #[a, b, v, d, .pointer (some ⟨q, 0, none⟩), f]) (h : BdR w 68 q most l n vb) (hm : most ≤ 1099511627776) (hl : l.length ≤ most) (hn : n ≤ 1099511627776) :
    Calls Tryd.prog 27 #[.pointer (some ⟨g, 0, none⟩), .string (strB [46])] w fun en w' => en = .returned (.tuple #[.bool true, .int .i64 0]) ∧ ∃ vx, Blk w' g 51 #[a, b, v, vx, .pointer (some ⟨q, 0, none⟩), f] ∧ Row w' 5 (fun k => w.heap.size ≤ k) vx (b8s l) ∧ Kept w w' (fun k => k = g ∨ k = q ∨ OB vb k) := by
  obtain ⟨⟨_, _, _, _, c4, _⟩, _⟩ := hb.cells6
  have hne : ¬ g = q := fun e => by subst e; exact absurd (hb.symm.trans h.1) (by simp)
  have hne2 : ¬ OB vb g := fun e => h.2.ne_blk hb (by decide) e
  have hc := stuffLine_calls w q most l [46] n vb (true, 0, l) (by unfold bodyL; rw [if_pos rfl]) h hm hl (by simp) hn
  have HC := Lib.hid hc
  have HB0 := Lib.hid hb
  have HN1 := Lib.hid hne
  have HN2 := Lib.hid hne2
  clear hb h hc hne hne2
  go_enter Tryd.func27, Tryd.ntmps27
  go_wp2_with fail
  refine HC.out.mono ?_
  rintro en w1 ⟨rfl, v1, n1, hn1, hB, hk, ho⟩
  have HB := Lib.hid hB
  have HK := Lib.hid hk
  have hb1 := HB0.out.kept hk (by rintro (e | e); exact HN1.out e; exact HN2.out e)
  obtain ⟨⟨d0, d1, d2, d3, d4, d5⟩, e0, e1, e2, e3, e4, e5⟩ := hb1.cells6
  have HB1 := Lib.hid hb1
  clear hB hk ho hb1 c4
  go_wp2_with fail
  refine (bytes_calls w1 q most l n1 v1 HB.out (by omega)).mono ?_
  rintro en w2 ⟨vx, rfl, hr2, hk2⟩
  have hb2 := HB1.out.kept0 hk2
  obtain ⟨⟨g0, g1, g2, g3, g4, g5⟩, i0, i1, i2, i3, i4, i5⟩ := hb2.cells6
  have HB2 := Lib.hid hb2
  have HR2 := Lib.hid hr2
  have hs1 := HK.out.size
  have hvx : vx.ownBlock ≠ some g := hr2.ne_blk hb2 (by decide)
  have HVX := Lib.hid hvx
  have HK2 := Lib.hid ((HK.out.mono (T := fun k => k = g ∨ k = q ∨ OB vb k) fun _ h => .inr h).trans (hk2.of_no (S := fun k => k = g ∨ k = q ∨ OB vb k)) fun _ h => .inl h)
  obtain ⟨Ax, nx, cx, rfl⟩ := hr2.slice
  clear d0 d1 d2 d3 d4 d5 e0 e1 e2 e3 e4 e5 hr2 hk2 hb2 hvx
  go_wp2_with fail
  go_ret2
  exact ⟨rfl, _, HB2.out.set_ 3 (.slice Ax nx cx), (HR2.out.mono fun k _ hk => Nat.le_trans hs1 hk).far (p := ⟨g, 3, none⟩) HVX.out _, HK2.out.setCell (p := ⟨g, 3, none⟩) (.inl (.inl rfl)) _⟩
end Go.Proofs.YtamemddgajmimaaDoor
