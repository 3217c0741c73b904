/- Replies of Pop3 with a body: Line. -/
import Derived.Test.YtamemddgajmimaaDoorStuff4
import Derived.Test.YtamemddgajmimaaDoorRepS
set_option linter.unusedVariables false
set_option linter.unusedSimpArgs false
namespace Go.Proofs.YtamemddgajmimaaDoor
open Go.RowKit Go.Shelf

theorem MkB.far3 {w : World} {g : Nat} {c t : List UInt8} {v : Value} {q : Nat} {l : List UInt8} {n : Nat} {vb : Value} {R : Nat} (h : MkB w g c t v q l n vb) (hg : ¬ g = R) (hq : ¬ q = R) (hv : v.ownBlock ≠ some R) (hvb : vb.ownBlock ≠ some R) (x y z : Value) :
    MkB (((w.setCell ⟨R, 0, none⟩ x).setCell ⟨R, 1, none⟩ y).setCell ⟨R, 2, none⟩ z) g c t v q l n vb :=
  ⟨h.1.far3 hg _ _ _, h.2.1.far3 hv _ _ _, h.2.2.1.far3 hq _ _ _, h.2.2.2.far3 hvb _ _ _⟩
theorem MkB.kept {w w' : World} {S : Nat → Prop} {g : Nat} {c t : List UInt8} {v : Value} {q : Nat} {l : List UInt8} {n : Nat} {vb : Value} (h : MkB w g c t v q l n vb) (k : Kept w w' S) (hg : ¬ S g) (hq : ¬ S q) (hv : ∀ b, OB v b → ¬ S b) (hvb : ∀ b, OB vb b → ¬ S b) : MkB w' g c t v q l n vb :=
  ⟨h.1.kept k hg, h.2.1.kept_ k hv, h.2.2.kept k hq hvb⟩
theorem MkB.kept0 {w w' : World} {g : Nat} {c t : List UInt8} {v : Value} {q : Nat} {l : List UInt8} {n : Nat} {vb : Value} (h : MkB w g c t v q l n vb) (k : Kept w w' NoB) : MkB w' g c t v q l n vb := h.kept k (fun x => x) (fun x => x) (fun _ _ x => x) (fun _ _ x => x)
set_option maxHeartbeats 4000000 in
set_option maxRecDepth 100000 in
theorem line_plus (w : World) (g : Nat) (s t : List UInt8) (v : Value) (h : MkSt w g 2 none v) (hl : s.length ≤ 1099511627) (hm : MaxI w) (hs : statusL 2 s = some ([43], false, t)) :
    Calls Tryd.prog 12 #[.pointer (some ⟨g, 0, none⟩), .string (strB s), .bool true] w fun en w' => en = .returned (.tuple #[.agg #[.string ByteArray.empty, .slice none 0 0, .slice none 0 0], .bool false, .int .i64 0]) ∧ ∃ v' q, MkB w' g [43] t v' q [] 0 (.slice none 0 0) ∧ Kept w w' (fun k => k = g) ∧ (∀ k, OB v' k → w.heap.size ≤ k) ∧ w.heap.size ≤ q := by
  obtain ⟨hb, rfl⟩ := h
  obtain ⟨⟨c0', c1', c2', c3', c4', c5'⟩, _⟩ := hb.cells6
  have HB := Lib.hid hb
  have HS := Lib.hid hs
  have n3 := eql_nil
  have n4 := eql_func
  have hlt0 := hb.lt
  clear hb hs
  go_enter Tryd.func12, Tryd.ntmps12
  go_wp2_with fail
  refine (begin_plus _ g 2 [43] s t false true _ _ _ rfl rfl rfl rfl (HB.out.alloc _) hl (hm.kept0 ((Kept.refl _ _).alloc _)) HS.out).mono ?_
  rintro en w1 ⟨rfl, v1, q, hmk, hk1, ho1, hq1⟩
  rw [World.size_alloc] at hq1
  have hnR : ¬ w.heap.size = g := by omega
  have HR1 := Lib.hid ((Blk.new w 30 #[.string ByteArray.empty, .slice none 0 0, .slice none 0 0]).kept hk1 hnR)
  have HK1 := Lib.hid ((((Kept.refl w NoB).alloc (.cells #[.string ByteArray.empty, .slice none 0 0, .slice none 0 0] 30)).of_no (S := fun k => k = g)).trans hk1 fun b hb => .inl hb)
  have HO1 : Hid (∀ k, OB v1 k → w.heap.size < k) := fun k hk => by have h := ho1 k hk; rw [World.size_alloc] at h; omega
  have HMK := Lib.hid hmk
  obtain ⟨⟨d0, d1, d2, d3, d4, d5⟩, e0, e1, e2, e3, e4, e5⟩ := hmk.1.cells6
  obtain ⟨r0, r1, r2, q0, q1, q2⟩ := HR1.out.cells3
  unfold bodiedF at d5
  have hrl1 := HR1.out.lt
  have hgl := HMK.out.1.lt
  have hne : ¬ g = w.heap.size := by omega
  have hqR : ¬ q = w.heap.size := by omega
  have hvR : v1.ownBlock ≠ some w.heap.size := fun e => absurd (HO1.out _ e) (Nat.lt_irrefl _)
  have HVR := Lib.hid hvR
  obtain ⟨A1, m1, k1, hv1⟩ := hmk.2.1.slice
  subst hv1
  clear hk1 hmk ho1 hvR c0' c1' c2' c3' c4' c5'
  go_wp2_with fail
  refine bodyPost_ret (results_cell_row3 rfl _ _ w.heap.size 30 _ (0, 0) _ (.bool false) (.int .i64 0) rfl rfl rfl (HR1.out.set3 (.string ByteArray.empty) (.slice none 0 0) (.slice none 0 0)) Tryd.underlying30 rfl rp_size) rfl ?_
  exact ⟨rfl, _, q, HMK.out.far3 hne hqR HVR.out (by simp [Value.ownBlock]) _ _ _, HK1.out.set3 (.inr (Nat.le_refl _)) _ _ _, fun k hk => Nat.le_of_lt (HO1.out k hk), by omega⟩
theorem line_minus (w : World) (g : Nat) (s t c : List UInt8) (v : Value) (h : MkSt w g 2 none v) (hl : s.length ≤ 1099511627) (hm : MaxI w) (hs : statusL 2 s = some (c, false, t)) (hc : c ≠ [43]) :
    Calls Tryd.prog 12 #[.pointer (some ⟨g, 0, none⟩), .string (strB s), .bool true] w (LinePost w g 2 v (some (c, [t]), 0, none)) := by
  obtain ⟨hb, rfl⟩ := h
  refine line_idle_whole w g 2 s true _ c [t] .nilFunc hb (fun k hk => absurd hk ob_nil) fun W hk hbW => ?_
  refine (begin_minus W g 2 c s t false true _ _ _ rfl rfl rfl hc hbW hl (hm.kept0 hk) hs).mono ?_
  rintro en w' ⟨v', rfl, hb', hr', hk', ho'⟩
  exact ⟨v', rfl, hb', hr', hk'.mono fun _ h => .inl h, fun k hk => .inr (ho' k hk)⟩
def BodPost (w : World) (g : Nat) (c t : List UInt8) (v : Value) (q : Nat) (l' : List UInt8) (n : Nat) (vb : Value) (e : Int) (w' : World) : Prop :=
  (e = 0 → ∃ vb' n', n' ≤ n + 1 ∧ MkB w' g c t v q l' n' vb' ∧ ∀ k, OB vb' k → OB vb k ∨ w.heap.size ≤ k) ∧ (e ≠ 0 → MkSt w' g 2 none (.slice none 0 0))
def bdS (g q : Nat) (vb : Value) : Nat → Prop := fun k => k = g ∨ k = q ∨ OB vb k
set_option maxHeartbeats 4000000 in
set_option maxRecDepth 100000 in
theorem line_bodied (w : World) (g : Nat) (c t : List UInt8) (v : Value) (q : Nat) (l s : List UInt8) (n : Nat) (vb : Value) (body : Bool) (e : Int) (l' : List UInt8) (he : e = 0 ∨ e = 72) (h : MkB w g c t v q l n vb) (hr : bodyL 1000 l s = (false, e, l')) (hl : l.length ≤ 1000) (hs : s.length ≤ 1099511627) (hn : n ≤ 1099511627776) :
    Calls Tryd.prog 12 #[.pointer (some ⟨g, 0, none⟩), .string (strB s), .bool body] w fun en w' => en = .returned (.tuple #[.agg #[.string ByteArray.empty, .slice none 0 0, .slice none 0 0], .bool false, .int .i64 e]) ∧ Kept w w' (bdS g q vb) ∧ BodPost w g c t v q l' n vb e w' := by
  obtain ⟨hb, hrow, hbd⟩ := h
  have hgq : ¬ g = q := fun e => by subst e; exact absurd (hb.symm.trans hbd.1) (by simp)
  have hgv : ¬ OB vb g := fun e => hbd.2.ne_blk hb (by decide) e
  have hvq : ¬ OB v q := fun e => hrow.ne_blk hbd.1 (by decide) e
  have hvvb : ∀ k, OB v k → ¬ OB vb k := hrow.apart hbd.2 (by decide)
  have hvbq : ¬ OB vb q := fun e => hbd.2.ne_blk hbd.1 (by decide) e
  obtain ⟨⟨c0', c1', c2', c3', c4', c5'⟩, _⟩ := hb.cells6
  unfold bodiedF at c5'
  have HB := Lib.hid hb
  have HROW := Lib.hid hrow
  have HBD := Lib.hid hbd
  have HR := Lib.hid hr
  have n3 := eql_nil
  have n4 := eql_func
  have hlt0 := hb.lt
  have hqlt := hbd.1.lt
  have hvl : ∀ k, OB v k → k < w.heap.size := fun k hk => hrow.lt hk
  have hbl : ∀ k, OB vb k → k < w.heap.size := fun k hk => hbd.2.lt hk
  have HVL := Lib.hid hvl
  have HBL := Lib.hid hbl
  have HD := Lib.hid hvvb
  clear hb hrow hbd hr hvl hbl hvvb
  go_enter Tryd.func12, Tryd.ntmps12
  go_wp2_with fail
  refine (bodied_on _ g q 1000 _ _ _ _ _ l s n vb e l' HR.out (HB.out.alloc _) (HBD.out.kept0 ((Kept.refl _ _).alloc _)) (by decide) hl (by omega) hn).mono ?_
  rintro en w1 ⟨rfl, vb1, n1, hn1, hB1, hk1, ho1⟩
  have hnR : ¬ (w.heap.size = q ∨ OB vb w.heap.size) := by
    rintro (e | e)
    · omega
    · exact absurd (HBL.out _ e) (Nat.lt_irrefl _)
  have HR1 := Lib.hid ((Blk.new w 30 #[.string ByteArray.empty, .slice none 0 0, .slice none 0 0]).kept hk1 hnR)
  have HK1 := Lib.hid ((((Kept.refl w NoB).alloc (.cells #[.string ByteArray.empty, .slice none 0 0, .slice none 0 0] 30)).of_no (S := bdS g q vb)).trans hk1 fun b hb => .inl (.inr hb))
  have HO1 : Hid (∀ k, OB vb1 k → OB vb k ∨ w.heap.size < k) := fun k hk => (ho1 k hk).imp id fun h => by rw [World.size_alloc] at h; omega
  have hg1 := (HB.out.alloc (.cells #[.string ByteArray.empty, .slice none 0 0, .slice none 0 0] 30)).kept hk1 (by rintro (e | e); exact hgq e; exact hgv e)
  have hrow1 := (HROW.out.alloc (.cells #[.string ByteArray.empty, .slice none 0 0, .slice none 0 0] 30)).kept_ hk1 (fun b hb => by rintro (e | e); exact hvq (e ▸ hb); exact HD.out b hb e)
  obtain ⟨⟨d0, d1, d2, d3, d4, d5⟩, e0, e1, e2, e3, e4, e5⟩ := hg1.cells6
  unfold bodiedF at d5
  obtain ⟨r0, r1, r2, q0, q1, q2⟩ := HR1.out.cells3
  have HG1 := Lib.hid hg1
  have HROW1 := Lib.hid hrow1
  have HB1 := Lib.hid hB1
  have hrl1 := HR1.out.lt
  have hgl := HG1.out.lt
  have hne : ¬ g = w.heap.size := by omega
  have hne' : ¬ w.heap.size = g := by omega
  have hqR : ¬ q = w.heap.size := by omega
  have hvR : v.ownBlock ≠ some w.heap.size := fun e => absurd (HVL.out _ e) (Nat.lt_irrefl _)
  have hbR : vb1.ownBlock ≠ some w.heap.size := fun e => by
    rcases HO1.out _ e with h | h
    · exact absurd (HBL.out _ h) (Nat.lt_irrefl _)
    · exact absurd h (Nat.lt_irrefl _)
  have HVR := Lib.hid hvR
  have HBR := Lib.hid hbR
  obtain ⟨A1, m1, k1, hv1⟩ := hrow1.slice
  subst hv1
  clear hk1 hg1 hrow1 hB1 ho1 hnR hvR hbR c0' c1' c2' c3' c4' c5'
  rcases he with rfl | rfl
  · go_wp2_with fail
    refine bodyPost_ret (results_cell_row3 rfl _ _ w.heap.size 30 _ (0, 0) _ (.bool false) (.int .i64 0) rfl rfl rfl (HR1.out.set3 (.string ByteArray.empty) (.slice none 0 0) (.slice none 0 0)) Tryd.underlying30 rfl rp_size) rfl ?_
    exact ⟨rfl, HK1.out.set3 (.inr (Nat.le_refl _)) _ _ _, fun _ => ⟨vb1, n1, hn1, MkB.far3 ⟨HG1.out, HROW1.out, HB1.out⟩ hne hqR HVR.out HBR.out _ _ _, fun k hk => (HO1.out k hk).imp id fun h => by omega⟩, fun h => absurd rfl h⟩
  · go_wp2_with fail
    refine bodyPost_ret (results_cell_row3 rfl _ _ w.heap.size 30 _ (0, 0) _ (.bool false) (.int .i64 72) rfl rfl rfl (((HR1.out.farM hne' (.string ByteArray.empty) (.slice none 0 0) (.slice none 0 0) (.pointer none) .nilFunc).set3 (.string ByteArray.empty) (.slice none 0 0) (.slice none 0 0)).alloc _) Tryd.underlying30 rfl rp_size) rfl ?_
    exact ⟨rfl, ((HK1.out.setM (.inl (.inl rfl)) _ _ _ _ _).set3 (.inr (Nat.le_refl _)) _ _ _).alloc _, fun h => absurd h (by decide), fun _ => ⟨((HG1.out.setM (.string ByteArray.empty) (.slice none 0 0) (.slice none 0 0) (.pointer none) .nilFunc).far3 hne _ _ _).alloc _, rfl⟩⟩
set_option maxHeartbeats 4000000 in
set_option maxRecDepth 100000 in
theorem line_end (w : World) (g : Nat) (c t : List UInt8) (v : Value) (q : Nat) (l : List UInt8) (n : Nat) (vb : Value) (body : Bool) (h : MkB w g c t v q l n vb) (hl : l.length ≤ 1000) (hn : n ≤ 1099511627776) :
    Calls Tryd.prog 12 #[.pointer (some ⟨g, 0, none⟩), .string (strB [46]), .bool body] w fun en w' => ∃ vx, en = .returned (.tuple #[.agg #[.string (strB c), v, vx], .bool true, .int .i64 0]) ∧ Row w' 9 anyB v (strs [t]) ∧ Row w' 5 anyB vx (b8s l) ∧ MkSt w' g 2 none (.slice none 0 0) ∧ Kept w w' (bdS g q vb) := by
  obtain ⟨hb, hrow, hbd⟩ := h
  have hgv : ¬ OB v g := fun e => hrow.ne_blk hb (by decide) e
  have hvq : ¬ OB v q := fun e => hrow.ne_blk hbd.1 (by decide) e
  have hvvb : ∀ k, OB v k → ¬ OB vb k := hrow.apart hbd.2 (by decide)
  obtain ⟨⟨c0', c1', c2', c3', c4', c5'⟩, _⟩ := hb.cells6
  unfold bodiedF at c5'
  have HB := Lib.hid hb
  have HROW := Lib.hid hrow
  have HBD := Lib.hid hbd
  have n3 := eql_nil
  have n4 := eql_func
  have hlt0 := hb.lt
  have hqlt := hbd.1.lt
  have hvl : ∀ k, OB v k → k < w.heap.size := fun k hk => hrow.lt hk
  have hbl : ∀ k, OB vb k → k < w.heap.size := fun k hk => hbd.2.lt hk
  have HVL := Lib.hid hvl
  have HBL := Lib.hid hbl
  have HD := Lib.hid hvvb
  clear hb hrow hbd hvl hbl hvvb
  go_enter Tryd.func12, Tryd.ntmps12
  go_wp2_with fail
  refine (bodied_end _ g q 1000 _ _ _ _ _ l n vb (HB.out.alloc _) (HBD.out.kept0 ((Kept.refl _ _).alloc _)) (by decide) hl hn).mono ?_
  rintro en w1 ⟨rfl, vx, hg1, hrx, hk1⟩
  have hnR : ¬ (w.heap.size = g ∨ w.heap.size = q ∨ OB vb w.heap.size) := by
    rintro (e | e | e)
    · omega
    · omega
    · exact absurd (HBL.out _ e) (Nat.lt_irrefl _)
  have HR1 := Lib.hid ((Blk.new w 30 #[.string ByteArray.empty, .slice none 0 0, .slice none 0 0]).kept hk1 hnR)
  have HK1 := Lib.hid ((((Kept.refl w NoB).alloc (.cells #[.string ByteArray.empty, .slice none 0 0, .slice none 0 0] 30)).of_no (S := bdS g q vb)).trans hk1 fun b hb => .inl hb)
  have hrow1 := (HROW.out.alloc (.cells #[.string ByteArray.empty, .slice none 0 0, .slice none 0 0] 30)).kept_ hk1 (fun b hb => by rintro (e | e | e); exact hgv (e ▸ hb); exact hvq (e ▸ hb); exact HD.out b hb e)
  obtain ⟨⟨d0, d1, d2, d3, d4, d5⟩, e0, e1, e2, e3, e4, e5⟩ := hg1.cells6
  unfold bodiedF at d5
  obtain ⟨r0, r1, r2, q0, q1, q2⟩ := HR1.out.cells3
  have HG1 := Lib.hid hg1
  have HROW1 := Lib.hid hrow1
  have HRX := Lib.hid (hrx.mono (T := anyB) fun _ _ _ => trivial)
  have hrl1 := HR1.out.lt
  have hgl := HG1.out.lt
  have hne : ¬ g = w.heap.size := by omega
  have hne' : ¬ w.heap.size = g := by omega
  have hvg : v.ownBlock ≠ some g := hgv
  have hxg : vx.ownBlock ≠ some g := hrx.ne_blk hg1 (by decide)
  have hvR : v.ownBlock ≠ some w.heap.size := fun e => absurd (HVL.out _ e) (Nat.lt_irrefl _)
  have hxR : vx.ownBlock ≠ some w.heap.size := fun e => by have h := hrx.2 _ e; rw [World.size_alloc] at h; omega
  have HVR := Lib.hid hvR
  have HXR := Lib.hid hxR
  have HVG := Lib.hid hvg
  have HXG := Lib.hid hxg
  obtain ⟨A1, m1, k1, hv1⟩ := hrow1.slice
  obtain ⟨A2, m2, k2, hv2⟩ := hrx.slice
  subst hv1 hv2
  clear hk1 hg1 hrow1 hrx hnR hvR hxR hvg hxg hgv hvq c0' c1' c2' c3' c4' c5'
  go_wp2_with fail
  refine bodyPost_ret (results_cell_row3 rfl _ _ w.heap.size 30 _ (0, 0) _ (.bool true) (.int .i64 0) rfl rfl rfl (((HR1.out.farM hne' (.string ByteArray.empty) (.slice none 0 0) (.slice none 0 0) (.pointer none) .nilFunc).set3 (.string (strB c)) (.slice A1 m1 k1) (.slice A2 m2 k2)).alloc _) Tryd.underlying30 rfl rp_size) rfl ?_
  exact ⟨.slice A2 m2 k2, rfl, ((HROW1.out.farM HVG.out _ _ _ _ _).far3 HVR.out _ _ _).alloc _, ((HRX.out.farM HXG.out _ _ _ _ _).far3 HXR.out _ _ _).alloc _, ⟨((HG1.out.setM (.string ByteArray.empty) (.slice none 0 0) (.slice none 0 0) (.pointer none) .nilFunc).far3 hne _ _ _).alloc _, rfl⟩, ((HK1.out.setM (.inl (.inl rfl)) _ _ _ _ _).set3 (.inr (Nat.le_refl _)) _ _ _).alloc _⟩
end Go.Proofs.YtamemddgajmimaaDoor
