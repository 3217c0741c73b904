/- Replies: a line more, without a body: what it computes. -/
import Derived.Test.YtamemddgajmimaaDoorRepB
import Derived.Laws.EntriesVeiled
set_option linter.unusedVariables false
set_option linter.unusedSimpArgs false
namespace Go.Proofs.YtamemddgajmimaaDoor
open Go.RowKit Go.Shelf

def rpV (r : Option Rp) : Rp := r.getD ([], [])
/-- What a line more leaves: the reply or none, whether it is whole, what is wrong; the maker's new state. -/
def LinePost (w : World) (g : Nat) (proto : Int) (v : Value) (r : Option Rp × Int × Option Rp) (en : Ending) (w' : World) : Prop :=
  ∃ vr v', en = .returned (.tuple #[.agg #[.string (strB (rpV r.1).1), vr, .slice none 0 0], .bool r.1.isSome, .int .i64 r.2.1]) ∧ Row w' 9 anyB vr (strs (rpV r.1).2) ∧ MkSt w' g proto r.2.2 v' ∧ Kept w w' (fun k => k = g ∨ OB v k) ∧ (∀ k, OB v' k → OB v k ∨ w.heap.size ≤ k) ∧ ∀ k, OB vr k → OB v k ∨ w.heap.size ≤ k
theorem rp_size : (Tryd.prog.info? 30).map (·.size) = some 3 := by kernel_rfl
section
variable {w a : World} {g h : Nat} {t : TypeId} {S : Nat → Prop}
theorem Blk.setM {a1 b c d e f : Value} (hb : Blk w g t #[a1, b, c, d, e, f]) (x y z u q : Value) :
    Blk (((((w.setCell ⟨g, 1, none⟩ x).setCell ⟨g, 2, none⟩ y).setCell ⟨g, 3, none⟩ z).setCell ⟨g, 4, none⟩ u).setCell ⟨g, 5, none⟩ q) g t #[a1, x, y, z, u, q] := ((((hb.set_ 1 x).set_ 2 y).set_ 3 z).set_ 4 u).set_ 5 q
theorem Blk.farM {cs : Array Value} (hb : Blk w h t cs) (hne : ¬ h = g) (x y z u q : Value) :
    Blk (((((w.setCell ⟨g, 1, none⟩ x).setCell ⟨g, 2, none⟩ y).setCell ⟨g, 3, none⟩ z).setCell ⟨g, 4, none⟩ u).setCell ⟨g, 5, none⟩ q) h t cs := ((((hb.far (p := ⟨g, 1, none⟩) hne x).far (p := ⟨g, 2, none⟩) hne y).far (p := ⟨g, 3, none⟩) hne z).far (p := ⟨g, 4, none⟩) hne u).far (p := ⟨g, 5, none⟩) hne q
theorem Row.farM {v : Value} {xs : List Value} (hr : Row w t S v xs) (hne : v.ownBlock ≠ some g) (x y z u q : Value) :
    Row (((((w.setCell ⟨g, 1, none⟩ x).setCell ⟨g, 2, none⟩ y).setCell ⟨g, 3, none⟩ z).setCell ⟨g, 4, none⟩ u).setCell ⟨g, 5, none⟩ q) t S v xs := ((((hr.far (p := ⟨g, 1, none⟩) hne x).far (p := ⟨g, 2, none⟩) hne y).far (p := ⟨g, 3, none⟩) hne z).far (p := ⟨g, 4, none⟩) hne u).far (p := ⟨g, 5, none⟩) hne q
theorem Row.far3 {v : Value} {xs : List Value} (hr : Row w t S v xs) (hne : v.ownBlock ≠ some g) (x y z : Value) :
    Row (((w.setCell ⟨g, 0, none⟩ x).setCell ⟨g, 1, none⟩ y).setCell ⟨g, 2, none⟩ z) t S v xs := ((hr.far (p := ⟨g, 0, none⟩) hne x).far (p := ⟨g, 1, none⟩) hne y).far (p := ⟨g, 2, none⟩) hne z
theorem Kept.setM (hk : Kept a w S) (hg : S g ∨ a.heap.size ≤ g) (x y z u q : Value) :
    Kept a (((((w.setCell ⟨g, 1, none⟩ x).setCell ⟨g, 2, none⟩ y).setCell ⟨g, 3, none⟩ z).setCell ⟨g, 4, none⟩ u).setCell ⟨g, 5, none⟩ q) S := ((((hk.setCell (p := ⟨g, 1, none⟩) hg x).setCell (p := ⟨g, 2, none⟩) hg y).setCell (p := ⟨g, 3, none⟩) hg z).setCell (p := ⟨g, 4, none⟩) hg u).setCell (p := ⟨g, 5, none⟩) hg q
end
/-- What takes a line leaves this in the maker. -/
def TakePost (W : World) (g : Nat) (proto : Int) (v : Value) (wh : Bool) (e : Int) (c : List UInt8) (r : List (List UInt8)) (f : Value) (en : Ending) (w' : World) : Prop :=
  ∃ v', en = .returned (.tuple #[.bool wh, .int .i64 e]) ∧ Blk w' g 51 #[.int .i64 proto, .string (strB c), v', .slice none 0 0, .pointer none, f] ∧ Row w' 9 anyB v' (strs r) ∧ Kept W w' (fun k => k = g ∨ OB v k) ∧ ∀ k, OB v' k → OB v k ∨ W.heap.size ≤ k

set_option maxHeartbeats 2000000 in
set_option maxRecDepth 100000 in
theorem line_idle_stop (w : World) (g : Nat) (proto : Int) (s : List UInt8) (body : Bool) (v : Value) (wh : Bool) (e : Int) (c : List UInt8) (r : List (List UInt8)) (f : Value) (hb : Blk w g 51 #[.int .i64 proto, .string ByteArray.empty, v, .slice none 0 0, .pointer none, .nilFunc]) (hv : ∀ k, OB v k → k < w.heap.size) (he : e ≠ 0)
    (hcall : ∀ W, Kept w W NoB → Blk W g 51 #[.int .i64 proto, .string ByteArray.empty, v, .slice none 0 0, .pointer none, .nilFunc] → Calls Tryd.prog 20 #[.pointer (some ⟨g, 0, none⟩), .string (strB s), .bool body] W (TakePost W g proto v wh e c r f)) :
    Calls Tryd.prog 12 #[.pointer (some ⟨g, 0, none⟩), .string (strB s), .bool body] w (LinePost w g proto v (none, e, none)) := by
  obtain ⟨⟨c0', c1', c2', c3', c4', c5'⟩, _⟩ := hb.cells6
  have HB := Lib.hid hb
  have HC := Lib.hid hcall
  have HV := Lib.hid hv
  have n3 := eql_nil
  have n4 := eql_func
  have hlt0 := hb.lt
  clear hb hcall hv
  have t0 : (e == 0) = false := beq_eq_false_iff_ne.2 he
  have t1 : (e != 0) = true := by rw [bne, t0]; rfl
  have HE := Lib.hid he
  clear he
  go_enter Tryd.func12, Tryd.ntmps12
  go_wp2_with fail
  refine (HC.out _ ((Kept.refl _ _).alloc _) (HB.out.alloc _)).mono ?_
  rintro en w1 ⟨v1, rfl, hg1, hr1, hk1, ho1⟩
  have hnR : ¬ (w.heap.size = g ∨ OB v w.heap.size) := by
    rintro (e | e)
    · omega
    · exact absurd (HV.out _ e) (Nat.lt_irrefl _)
  have HR1 := Lib.hid ((Blk.new w 30 #[.string ByteArray.empty, .slice none 0 0, .slice none 0 0]).kept hk1 hnR)
  have HK1 := Lib.hid ((((Kept.refl w NoB).alloc (.cells #[.string ByteArray.empty, .slice none 0 0, .slice none 0 0] 30)).of_no (S := fun k => k = g ∨ OB v k)).trans hk1 fun b hb => .inl hb)
  have HO1 : Hid (∀ k, OB v1 k → OB v k ∨ w.heap.size < k) := fun k hk => (ho1 k hk).imp id fun h => by rw [World.size_alloc] at h; omega
  have HG1 := Lib.hid hg1
  have HW1 := Lib.hid hr1
  obtain ⟨⟨d0, d1, d2, d3, d4, d5⟩, e0, e1, e2, e3, e4, e5⟩ := hg1.cells6
  obtain ⟨r0, r1, r2, q0, q1, q2⟩ := HR1.out.cells3
  have hgl := hg1.lt
  have hrl1 := HR1.out.lt
  have hne : ¬ g = w.heap.size := by omega
  have hne' : ¬ w.heap.size = g := by omega
  have hvg : v1.ownBlock ≠ some g := hr1.ne_blk hg1 (by decide)
  have HVG := Lib.hid hvg
  have hvR : v1.ownBlock ≠ some w.heap.size := fun e => by
    rcases HO1.out _ e with h | h
    · exact absurd (HV.out _ h) (Nat.lt_irrefl _)
    · exact absurd h (Nat.lt_irrefl _)
  have HVR := Lib.hid hvR
  obtain ⟨A1, m1, k1, hv1⟩ := hr1.slice
  subst hv1
  clear hk1 hr1 hg1 ho1 hnR hvg hvR c0' c1' c2' c3' c4' c5'
  cases wh
  all_goals
    go_wp2_with fail
    refine bodyPost_ret (results_cell_row3 rfl _ _ w.heap.size 30 _ (0, 0) _ (.bool false) (.int .i64 e) rfl rfl rfl (((HR1.out.farM hne' (.string ByteArray.empty) (.slice none 0 0) (.slice none 0 0) (.pointer none) .nilFunc).set3 (.string ByteArray.empty) (.slice none 0 0) (.slice none 0 0)).alloc _) Tryd.underlying30 rfl rp_size) rfl ?_
    exact ⟨.slice none 0 0, .slice none 0 0, rfl, Row.nil _ _ _, ⟨((HG1.out.setM (.string ByteArray.empty) (.slice none 0 0) (.slice none 0 0) (.pointer none) .nilFunc).far3 hne _ _ _).alloc _, rfl⟩, ((HK1.out.setM (.inl (.inl rfl)) _ _ _ _ _).set3 (.inr (Nat.le_refl _)) _ _ _).alloc _, fun k hk => by simp [OB, Value.ownBlock] at hk, fun k hk => by simp [OB, Value.ownBlock] at hk⟩
set_option maxHeartbeats 2000000 in
set_option maxRecDepth 100000 in
theorem line_idle_whole (w : World) (g : Nat) (proto : Int) (s : List UInt8) (body : Bool) (v : Value) (c : List UInt8) (r : List (List UInt8)) (f : Value) (hb : Blk w g 51 #[.int .i64 proto, .string ByteArray.empty, v, .slice none 0 0, .pointer none, .nilFunc]) (hv : ∀ k, OB v k → k < w.heap.size)
    (hcall : ∀ W, Kept w W NoB → Blk W g 51 #[.int .i64 proto, .string ByteArray.empty, v, .slice none 0 0, .pointer none, .nilFunc] → Calls Tryd.prog 20 #[.pointer (some ⟨g, 0, none⟩), .string (strB s), .bool body] W (TakePost W g proto v true 0 c r f)) :
    Calls Tryd.prog 12 #[.pointer (some ⟨g, 0, none⟩), .string (strB s), .bool body] w (LinePost w g proto v (some (c, r), 0, none)) := by
  obtain ⟨⟨c0', c1', c2', c3', c4', c5'⟩, _⟩ := hb.cells6
  have HB := Lib.hid hb
  have HC := Lib.hid hcall
  have HV := Lib.hid hv
  have n3 := eql_nil
  have n4 := eql_func
  have hlt0 := hb.lt
  clear hb hcall hv
  go_enter Tryd.func12, Tryd.ntmps12
  go_wp2_with fail
  refine (HC.out _ ((Kept.refl _ _).alloc _) (HB.out.alloc _)).mono ?_
  rintro en w1 ⟨v1, rfl, hg1, hr1, hk1, ho1⟩
  have hnR : ¬ (w.heap.size = g ∨ OB v w.heap.size) := by
    rintro (e | e)
    · omega
    · exact absurd (HV.out _ e) (Nat.lt_irrefl _)
  have HR1 := Lib.hid ((Blk.new w 30 #[.string ByteArray.empty, .slice none 0 0, .slice none 0 0]).kept hk1 hnR)
  have HK1 := Lib.hid ((((Kept.refl w NoB).alloc (.cells #[.string ByteArray.empty, .slice none 0 0, .slice none 0 0] 30)).of_no (S := fun k => k = g ∨ OB v k)).trans hk1 fun b hb => .inl hb)
  have HO1 : Hid (∀ k, OB v1 k → OB v k ∨ w.heap.size < k) := fun k hk => (ho1 k hk).imp id fun h => by rw [World.size_alloc] at h; omega
  have HG1 := Lib.hid hg1
  have HW1 := Lib.hid hr1
  obtain ⟨⟨d0, d1, d2, d3, d4, d5⟩, e0, e1, e2, e3, e4, e5⟩ := hg1.cells6
  obtain ⟨r0, r1, r2, q0, q1, q2⟩ := HR1.out.cells3
  have hgl := hg1.lt
  have hrl1 := HR1.out.lt
  have hne : ¬ g = w.heap.size := by omega
  have hne' : ¬ w.heap.size = g := by omega
  have hvg : v1.ownBlock ≠ some g := hr1.ne_blk hg1 (by decide)
  have HVG := Lib.hid hvg
  have hvR : v1.ownBlock ≠ some w.heap.size := fun e => by
    rcases HO1.out _ e with h | h
    · exact absurd (HV.out _ h) (Nat.lt_irrefl _)
    · exact absurd h (Nat.lt_irrefl _)
  have HVR := Lib.hid hvR
  obtain ⟨A1, m1, k1, hv1⟩ := hr1.slice
  subst hv1
  clear hk1 hr1 hg1 ho1 hnR hvg hvR c0' c1' c2' c3' c4' c5'
  go_wp2_with fail
  refine bodyPost_ret (results_cell_row3 rfl _ _ w.heap.size 30 _ (0, 0) _ (.bool true) (.int .i64 0) rfl rfl rfl (((HR1.out.farM hne' (.string ByteArray.empty) (.slice none 0 0) (.slice none 0 0) (.pointer none) .nilFunc).set3 (.string (strB c)) (.slice A1 m1 k1) (.slice none 0 0)).alloc _) Tryd.underlying30 rfl rp_size) rfl ?_
  exact ⟨.slice A1 m1 k1, .slice none 0 0, rfl, ((HW1.out.farM HVG.out _ _ _ _ _).far3 HVR.out _ _ _).alloc _, ⟨((HG1.out.setM (.string ByteArray.empty) (.slice none 0 0) (.slice none 0 0) (.pointer none) .nilFunc).far3 hne _ _ _).alloc _, rfl⟩, ((HK1.out.setM (.inl (.inl rfl)) _ _ _ _ _).set3 (.inr (Nat.le_refl _)) _ _ _).alloc _, fun k hk => by simp [OB, Value.ownBlock] at hk, fun k hk => (HO1.out k hk).imp id fun h => by omega⟩
set_option maxHeartbeats 2000000 in
set_option maxRecDepth 100000 in
theorem line_idle_go (w : World) (g : Nat) (proto : Int) (s : List UInt8) (body : Bool) (v : Value) (c : List UInt8) (r : List (List UInt8)) (f : Value) (hb : Blk w g 51 #[.int .i64 proto, .string ByteArray.empty, v, .slice none 0 0, .pointer none, .nilFunc]) (hv : ∀ k, OB v k → k < w.heap.size) (hp : proto = 1 ∨ proto = 3) (hrl : r.length ≤ 20) (hf : f = moreF proto g)
    (hcall : ∀ W, Kept w W NoB → Blk W g 51 #[.int .i64 proto, .string ByteArray.empty, v, .slice none 0 0, .pointer none, .nilFunc] → Calls Tryd.prog 20 #[.pointer (some ⟨g, 0, none⟩), .string (strB s), .bool body] W (TakePost W g proto v false 0 c r f)) :
    Calls Tryd.prog 12 #[.pointer (some ⟨g, 0, none⟩), .string (strB s), .bool body] w (LinePost w g proto v (none, 0, some (c, r))) := by
  obtain ⟨⟨c0', c1', c2', c3', c4', c5'⟩, _⟩ := hb.cells6
  have HB := Lib.hid hb
  have HC := Lib.hid hcall
  have HV := Lib.hid hv
  have n3 := eql_nil
  have n4 := eql_func
  have hlt0 := hb.lt
  clear hb hcall hv
  have HP := Lib.hid hp
  have HF := Lib.hid hf
  have HRL := Lib.hid hrl
  clear hp hf hrl
  go_enter Tryd.func12, Tryd.ntmps12
  go_wp2_with fail
  refine (HC.out _ ((Kept.refl _ _).alloc _) (HB.out.alloc _)).mono ?_
  rintro en w1 ⟨v1, rfl, hg1, hr1, hk1, ho1⟩
  have hnR : ¬ (w.heap.size = g ∨ OB v w.heap.size) := by
    rintro (e | e)
    · omega
    · exact absurd (HV.out _ e) (Nat.lt_irrefl _)
  have HR1 := Lib.hid ((Blk.new w 30 #[.string ByteArray.empty, .slice none 0 0, .slice none 0 0]).kept hk1 hnR)
  have HK1 := Lib.hid ((((Kept.refl w NoB).alloc (.cells #[.string ByteArray.empty, .slice none 0 0, .slice none 0 0] 30)).of_no (S := fun k => k = g ∨ OB v k)).trans hk1 fun b hb => .inl hb)
  have HO1 : Hid (∀ k, OB v1 k → OB v k ∨ w.heap.size < k) := fun k hk => (ho1 k hk).imp id fun h => by rw [World.size_alloc] at h; omega
  have HG1 := Lib.hid hg1
  have HW1 := Lib.hid hr1
  obtain ⟨⟨d0, d1, d2, d3, d4, d5⟩, e0, e1, e2, e3, e4, e5⟩ := hg1.cells6
  obtain ⟨r0, r1, r2, q0, q1, q2⟩ := HR1.out.cells3
  have hgl := hg1.lt
  have hrl1 := HR1.out.lt
  have hne : ¬ g = w.heap.size := by omega
  have hne' : ¬ w.heap.size = g := by omega
  have hvg : v1.ownBlock ≠ some g := hr1.ne_blk hg1 (by decide)
  have HVG := Lib.hid hvg
  have hvR : v1.ownBlock ≠ some w.heap.size := fun e => by
    rcases HO1.out _ e with h | h
    · exact absurd (HV.out _ h) (Nat.lt_irrefl _)
    · exact absurd h (Nat.lt_irrefl _)
  have HVR := Lib.hid hvR
  obtain ⟨A1, m1, k1, hv1⟩ := hr1.slice
  subst hv1
  clear hk1 hr1 hg1 ho1 hnR hvg hvR c0' c1' c2' c3' c4' c5'
  go_wp2_with fail
  refine bodyPost_ret (results_cell_row3 rfl _ _ w.heap.size 30 _ (0, 0) _ (.bool false) (.int .i64 0) rfl rfl rfl (HR1.out.set3 (.string ByteArray.empty) (.slice none 0 0) (.slice none 0 0)) Tryd.underlying30 rfl rp_size) rfl ?_
  exact ⟨.slice none 0 0, .slice A1 m1 k1, rfl, Row.nil _ _ _, ⟨HP.out, HRL.out, by rw [← HF.out]; exact HG1.out.far3 hne _ _ _, HW1.out.far3 HVR.out _ _ _⟩, HK1.out.set3 (.inr (Nat.le_refl _)) _ _ _, fun k hk => (HO1.out k hk).imp id fun h => by omega, fun k hk => by simp [OB, Value.ownBlock] at hk⟩
set_option maxHeartbeats 2000000 in
set_option maxRecDepth 100000 in
theorem line_strict_stop (w : World) (g : Nat) (proto : Int) (s : List UInt8) (body : Bool) (v : Value) (c0 : List UInt8) (wh : Bool) (e : Int) (c : List UInt8) (r : List (List UInt8)) (f : Value) (hb : Blk w g 51 #[.int .i64 proto, .string (strB c0), v, .slice none 0 0, .pointer none, .func (.func 24) #[.pointer (some ⟨g, 0, none⟩)] #[]]) (hv : ∀ k, OB v k → k < w.heap.size) (he : e ≠ 0)
    (hcall : ∀ W, Kept w W NoB → Blk W g 51 #[.int .i64 proto, .string (strB c0), v, .slice none 0 0, .pointer none, .func (.func 24) #[.pointer (some ⟨g, 0, none⟩)] #[]] → Calls Tryd.prog 24 #[.pointer (some ⟨g, 0, none⟩), .string (strB s)] W (TakePost W g proto v wh e c r f)) :
    Calls Tryd.prog 12 #[.pointer (some ⟨g, 0, none⟩), .string (strB s), .bool body] w (LinePost w g proto v (none, e, none)) := by
  obtain ⟨⟨c0', c1', c2', c3', c4', c5'⟩, _⟩ := hb.cells6
  have HB := Lib.hid hb
  have HC := Lib.hid hcall
  have HV := Lib.hid hv
  have n3 := eql_nil
  have n4 := eql_func
  have hlt0 := hb.lt
  clear hb hcall hv
  have t0 : (e == 0) = false := beq_eq_false_iff_ne.2 he
  have t1 : (e != 0) = true := by rw [bne, t0]; rfl
  have HE := Lib.hid he
  clear he
  go_enter Tryd.func12, Tryd.ntmps12
  go_wp2_with fail
  refine (HC.out _ ((Kept.refl _ _).alloc _) (HB.out.alloc _)).mono ?_
  rintro en w1 ⟨v1, rfl, hg1, hr1, hk1, ho1⟩
  have hnR : ¬ (w.heap.size = g ∨ OB v w.heap.size) := by
    rintro (e | e)
    · omega
    · exact absurd (HV.out _ e) (Nat.lt_irrefl _)
  have HR1 := Lib.hid ((Blk.new w 30 #[.string ByteArray.empty, .slice none 0 0, .slice none 0 0]).kept hk1 hnR)
  have HK1 := Lib.hid ((((Kept.refl w NoB).alloc (.cells #[.string ByteArray.empty, .slice none 0 0, .slice none 0 0] 30)).of_no (S := fun k => k = g ∨ OB v k)).trans hk1 fun b hb => .inl hb)
  have HO1 : Hid (∀ k, OB v1 k → OB v k ∨ w.heap.size < k) := fun k hk => (ho1 k hk).imp id fun h => by rw [World.size_alloc] at h; omega
  have HG1 := Lib.hid hg1
  have HW1 := Lib.hid hr1
  obtain ⟨⟨d0, d1, d2, d3, d4, d5⟩, e0, e1, e2, e3, e4, e5⟩ := hg1.cells6
  obtain ⟨r0, r1, r2, q0, q1, q2⟩ := HR1.out.cells3
  have hgl := hg1.lt
  have hrl1 := HR1.out.lt
  have hne : ¬ g = w.heap.size := by omega
  have hne' : ¬ w.heap.size = g := by omega
  have hvg : v1.ownBlock ≠ some g := hr1.ne_blk hg1 (by decide)
  have HVG := Lib.hid hvg
  have hvR : v1.ownBlock ≠ some w.heap.size := fun e => by
    rcases HO1.out _ e with h | h
    · exact absurd (HV.out _ h) (Nat.lt_irrefl _)
    · exact absurd h (Nat.lt_irrefl _)
  have HVR := Lib.hid hvR
  obtain ⟨A1, m1, k1, hv1⟩ := hr1.slice
  subst hv1
  clear hk1 hr1 hg1 ho1 hnR hvg hvR c0' c1' c2' c3' c4' c5'
  cases wh
  all_goals
    go_wp2_with fail
    refine bodyPost_ret (results_cell_row3 rfl _ _ w.heap.size 30 _ (0, 0) _ (.bool false) (.int .i64 e) rfl rfl rfl (((HR1.out.farM hne' (.string ByteArray.empty) (.slice none 0 0) (.slice none 0 0) (.pointer none) .nilFunc).set3 (.string ByteArray.empty) (.slice none 0 0) (.slice none 0 0)).alloc _) Tryd.underlying30 rfl rp_size) rfl ?_
    exact ⟨.slice none 0 0, .slice none 0 0, rfl, Row.nil _ _ _, ⟨((HG1.out.setM (.string ByteArray.empty) (.slice none 0 0) (.slice none 0 0) (.pointer none) .nilFunc).far3 hne _ _ _).alloc _, rfl⟩, ((HK1.out.setM (.inl (.inl rfl)) _ _ _ _ _).set3 (.inr (Nat.le_refl _)) _ _ _).alloc _, fun k hk => by simp [OB, Value.ownBlock] at hk, fun k hk => by simp [OB, Value.ownBlock] at hk⟩
set_option maxHeartbeats 2000000 in
set_option maxRecDepth 100000 in
theorem line_strict_whole (w : World) (g : Nat) (proto : Int) (s : List UInt8) (body : Bool) (v : Value) (c0 : List UInt8) (c : List UInt8) (r : List (List UInt8)) (f : Value) (hb : Blk w g 51 #[.int .i64 proto, .string (strB c0), v, .slice none 0 0, .pointer none, .func (.func 24) #[.pointer (some ⟨g, 0, none⟩)] #[]]) (hv : ∀ k, OB v k → k < w.heap.size)
    (hcall : ∀ W, Kept w W NoB → Blk W g 51 #[.int .i64 proto, .string (strB c0), v, .slice none 0 0, .pointer none, .func (.func 24) #[.pointer (some ⟨g, 0, none⟩)] #[]] → Calls Tryd.prog 24 #[.pointer (some ⟨g, 0, none⟩), .string (strB s)] W (TakePost W g proto v true 0 c r f)) :
    Calls Tryd.prog 12 #[.pointer (some ⟨g, 0, none⟩), .string (strB s), .bool body] w (LinePost w g proto v (some (c, r), 0, none)) := by
  obtain ⟨⟨c0', c1', c2', c3', c4', c5'⟩, _⟩ := hb.cells6
  have HB := Lib.hid hb
  have HC := Lib.hid hcall
  have HV := Lib.hid hv
  have n3 := eql_nil
  have n4 := eql_func
  have hlt0 := hb.lt
  clear hb hcall hv
  go_enter Tryd.func12, Tryd.ntmps12
  go_wp2_with fail
  refine (HC.out _ ((Kept.refl _ _).alloc _) (HB.out.alloc _)).mono ?_
  rintro en w1 ⟨v1, rfl, hg1, hr1, hk1, ho1⟩
  have hnR : ¬ (w.heap.size = g ∨ OB v w.heap.size) := by
    rintro (e | e)
    · omega
    · exact absurd (HV.out _ e) (Nat.lt_irrefl _)
  have HR1 := Lib.hid ((Blk.new w 30 #[.string ByteArray.empty, .slice none 0 0, .slice none 0 0]).kept hk1 hnR)
  have HK1 := Lib.hid ((((Kept.refl w NoB).alloc (.cells #[.string ByteArray.empty, .slice none 0 0, .slice none 0 0] 30)).of_no (S := fun k => k = g ∨ OB v k)).trans hk1 fun b hb => .inl hb)
  have HO1 : Hid (∀ k, OB v1 k → OB v k ∨ w.heap.size < k) := fun k hk => (ho1 k hk).imp id fun h => by rw [World.size_alloc] at h; omega
  have HG1 := Lib.hid hg1
  have HW1 := Lib.hid hr1
  obtain ⟨⟨d0, d1, d2, d3, d4, d5⟩, e0, e1, e2, e3, e4, e5⟩ := hg1.cells6
  obtain ⟨r0, r1, r2, q0, q1, q2⟩ := HR1.out.cells3
  have hgl := hg1.lt
  have hrl1 := HR1.out.lt
  have hne : ¬ g = w.heap.size := by omega
  have hne' : ¬ w.heap.size = g := by omega
  have hvg : v1.ownBlock ≠ some g := hr1.ne_blk hg1 (by decide)
  have HVG := Lib.hid hvg
  have hvR : v1.ownBlock ≠ some w.heap.size := fun e => by
    rcases HO1.out _ e with h | h
    · exact absurd (HV.out _ h) (Nat.lt_irrefl _)
    · exact absurd h (Nat.lt_irrefl _)
  have HVR := Lib.hid hvR
  obtain ⟨A1, m1, k1, hv1⟩ := hr1.slice
  subst hv1
  clear hk1 hr1 hg1 ho1 hnR hvg hvR c0' c1' c2' c3' c4' c5'
  go_wp2_with fail
  refine bodyPost_ret (results_cell_row3 rfl _ _ w.heap.size 30 _ (0, 0) _ (.bool true) (.int .i64 0) rfl rfl rfl (((HR1.out.farM hne' (.string ByteArray.empty) (.slice none 0 0) (.slice none 0 0) (.pointer none) .nilFunc).set3 (.string (strB c)) (.slice A1 m1 k1) (.slice none 0 0)).alloc _) Tryd.underlying30 rfl rp_size) rfl ?_
  exact ⟨.slice A1 m1 k1, .slice none 0 0, rfl, ((HW1.out.farM HVG.out _ _ _ _ _).far3 HVR.out _ _ _).alloc _, ⟨((HG1.out.setM (.string ByteArray.empty) (.slice none 0 0) (.slice none 0 0) (.pointer none) .nilFunc).far3 hne _ _ _).alloc _, rfl⟩, ((HK1.out.setM (.inl (.inl rfl)) _ _ _ _ _).set3 (.inr (Nat.le_refl _)) _ _ _).alloc _, fun k hk => by simp [OB, Value.ownBlock] at hk, fun k hk => (HO1.out k hk).imp id fun h => by omega⟩
set_option maxHeartbeats 2000000 in
set_option maxRecDepth 100000 in
theorem line_strict_go (w : World) (g : Nat) (proto : Int) (s : List UInt8) (body : Bool) (v : Value) (c0 : List UInt8) (c : List UInt8) (r : List (List UInt8)) (f : Value) (hb : Blk w g 51 #[.int .i64 proto, .string (strB c0), v, .slice none 0 0, .pointer none, .func (.func 24) #[.pointer (some ⟨g, 0, none⟩)] #[]]) (hv : ∀ k, OB v k → k < w.heap.size) (hp : proto = 1 ∨ proto = 3) (hrl : r.length ≤ 20) (hf : f = moreF proto g)
    (hcall : ∀ W, Kept w W NoB → Blk W g 51 #[.int .i64 proto, .string (strB c0), v, .slice none 0 0, .pointer none, .func (.func 24) #[.pointer (some ⟨g, 0, none⟩)] #[]] → Calls Tryd.prog 24 #[.pointer (some ⟨g, 0, none⟩), .string (strB s)] W (TakePost W g proto v false 0 c r f)) :
    Calls Tryd.prog 12 #[.pointer (some ⟨g, 0, none⟩), .string (strB s), .bool body] w (LinePost w g proto v (none, 0, some (c, r))) := by
  obtain ⟨⟨c0', c1', c2', c3', c4', c5'⟩, _⟩ := hb.cells6
  have HB := Lib.hid hb
  have HC := Lib.hid hcall
  have HV := Lib.hid hv
  have n3 := eql_nil
  have n4 := eql_func
  have hlt0 := hb.lt
  clear hb hcall hv
  have HP := Lib.hid hp
  have HF := Lib.hid hf
  have HRL := Lib.hid hrl
  clear hp hf hrl
  go_enter Tryd.func12, Tryd.ntmps12
  go_wp2_with fail
  refine (HC.out _ ((Kept.refl _ _).alloc _) (HB.out.alloc _)).mono ?_
  rintro en w1 ⟨v1, rfl, hg1, hr1, hk1, ho1⟩
  have hnR : ¬ (w.heap.size = g ∨ OB v w.heap.size) := by
    rintro (e | e)
    · omega
    · exact absurd (HV.out _ e) (Nat.lt_irrefl _)
  have HR1 := Lib.hid ((Blk.new w 30 #[.string ByteArray.empty, .slice none 0 0, .slice none 0 0]).kept hk1 hnR)
  have HK1 := Lib.hid ((((Kept.refl w NoB).alloc (.cells #[.string ByteArray.empty, .slice none 0 0, .slice none 0 0] 30)).of_no (S := fun k => k = g ∨ OB v k)).trans hk1 fun b hb => .inl hb)
  have HO1 : Hid (∀ k, OB v1 k → OB v k ∨ w.heap.size < k) := fun k hk => (ho1 k hk).imp id fun h => by rw [World.size_alloc] at h; omega
  have HG1 := Lib.hid hg1
  have HW1 := Lib.hid hr1
  obtain ⟨⟨d0, d1, d2, d3, d4, d5⟩, e0, e1, e2, e3, e4, e5⟩ := hg1.cells6
  obtain ⟨r0, r1, r2, q0, q1, q2⟩ := HR1.out.cells3
  have hgl := hg1.lt
  have hrl1 := HR1.out.lt
  have hne : ¬ g = w.heap.size := by omega
  have hne' : ¬ w.heap.size = g := by omega
  have hvg : v1.ownBlock ≠ some g := hr1.ne_blk hg1 (by decide)
  have HVG := Lib.hid hvg
  have hvR : v1.ownBlock ≠ some w.heap.size := fun e => by
    rcases HO1.out _ e with h | h
    · exact absurd (HV.out _ h) (Nat.lt_irrefl _)
    · exact absurd h (Nat.lt_irrefl _)
  have HVR := Lib.hid hvR
  obtain ⟨A1, m1, k1, hv1⟩ := hr1.slice
  subst hv1
  clear hk1 hr1 hg1 ho1 hnR hvg hvR c0' c1' c2' c3' c4' c5'
  go_wp2_with fail
  refine bodyPost_ret (results_cell_row3 rfl _ _ w.heap.size 30 _ (0, 0) _ (.bool false) (.int .i64 0) rfl rfl rfl (HR1.out.set3 (.string ByteArray.empty) (.slice none 0 0) (.slice none 0 0)) Tryd.underlying30 rfl rp_size) rfl ?_
  exact ⟨.slice none 0 0, .slice A1 m1 k1, rfl, Row.nil _ _ _, ⟨HP.out, HRL.out, by rw [← HF.out]; exact HG1.out.far3 hne _ _ _, HW1.out.far3 HVR.out _ _ _⟩, HK1.out.set3 (.inr (Nat.le_refl _)) _ _ _, fun k hk => (HO1.out k hk).imp id fun h => by omega, fun k hk => by simp [OB, Value.ownBlock] at hk⟩
set_option maxHeartbeats 2000000 in
set_option maxRecDepth 100000 in
theorem line_loose_stop (w : World) (g : Nat) (proto : Int) (s : List UInt8) (body : Bool) (v : Value) (c0 : List UInt8) (wh : Bool) (e : Int) (c : List UInt8) (r : List (List UInt8)) (f : Value) (hb : Blk w g 51 #[.int .i64 proto, .string (strB c0), v, .slice none 0 0, .pointer none, .func (.func 25) #[.pointer (some ⟨g, 0, none⟩)] #[]]) (hv : ∀ k, OB v k → k < w.heap.size) (he : e ≠ 0)
    (hcall : ∀ W, Kept w W NoB → Blk W g 51 #[.int .i64 proto, .string (strB c0), v, .slice none 0 0, .pointer none, .func (.func 25) #[.pointer (some ⟨g, 0, none⟩)] #[]] → Calls Tryd.prog 25 #[.pointer (some ⟨g, 0, none⟩), .string (strB s)] W (TakePost W g proto v wh e c r f)) :
    Calls Tryd.prog 12 #[.pointer (some ⟨g, 0, none⟩), .string (strB s), .bool body] w (LinePost w g proto v (none, e, none)) := by
  obtain ⟨⟨c0', c1', c2', c3', c4', c5'⟩, _⟩ := hb.cells6
  have HB := Lib.hid hb
  have HC := Lib.hid hcall
  have HV := Lib.hid hv
  have n3 := eql_nil
  have n4 := eql_func
  have hlt0 := hb.lt
  clear hb hcall hv
  have t0 : (e == 0) = false := beq_eq_false_iff_ne.2 he
  have t1 : (e != 0) = true := by rw [bne, t0]; rfl
  have HE := Lib.hid he
  clear he
  go_enter Tryd.func12, Tryd.ntmps12
  go_wp2_with fail
  refine (HC.out _ ((Kept.refl _ _).alloc _) (HB.out.alloc _)).mono ?_
  rintro en w1 ⟨v1, rfl, hg1, hr1, hk1, ho1⟩
  have hnR : ¬ (w.heap.size = g ∨ OB v w.heap.size) := by
    rintro (e | e)
    · omega
    · exact absurd (HV.out _ e) (Nat.lt_irrefl _)
  have HR1 := Lib.hid ((Blk.new w 30 #[.string ByteArray.empty, .slice none 0 0, .slice none 0 0]).kept hk1 hnR)
  have HK1 := Lib.hid ((((Kept.refl w NoB).alloc (.cells #[.string ByteArray.empty, .slice none 0 0, .slice none 0 0] 30)).of_no (S := fun k => k = g ∨ OB v k)).trans hk1 fun b hb => .inl hb)
  have HO1 : Hid (∀ k, OB v1 k → OB v k ∨ w.heap.size < k) := fun k hk => (ho1 k hk).imp id fun h => by rw [World.size_alloc] at h; omega
  have HG1 := Lib.hid hg1
  have HW1 := Lib.hid hr1
  obtain ⟨⟨d0, d1, d2, d3, d4, d5⟩, e0, e1, e2, e3, e4, e5⟩ := hg1.cells6
  obtain ⟨r0, r1, r2, q0, q1, q2⟩ := HR1.out.cells3
  have hgl := hg1.lt
  have hrl1 := HR1.out.lt
  have hne : ¬ g = w.heap.size := by omega
  have hne' : ¬ w.heap.size = g := by omega
  have hvg : v1.ownBlock ≠ some g := hr1.ne_blk hg1 (by decide)
  have HVG := Lib.hid hvg
  have hvR : v1.ownBlock ≠ some w.heap.size := fun e => by
    rcases HO1.out _ e with h | h
    · exact absurd (HV.out _ h) (Nat.lt_irrefl _)
    · exact absurd h (Nat.lt_irrefl _)
  have HVR := Lib.hid hvR
  obtain ⟨A1, m1, k1, hv1⟩ := hr1.slice
  subst hv1
  clear hk1 hr1 hg1 ho1 hnR hvg hvR c0' c1' c2' c3' c4' c5'
  cases wh
  all_goals
    go_wp2_with fail
    refine bodyPost_ret (results_cell_row3 rfl _ _ w.heap.size 30 _ (0, 0) _ (.bool false) (.int .i64 e) rfl rfl rfl (((HR1.out.farM hne' (.string ByteArray.empty) (.slice none 0 0) (.slice none 0 0) (.pointer none) .nilFunc).set3 (.string ByteArray.empty) (.slice none 0 0) (.slice none 0 0)).alloc _) Tryd.underlying30 rfl rp_size) rfl ?_
    exact ⟨.slice none 0 0, .slice none 0 0, rfl, Row.nil _ _ _, ⟨((HG1.out.setM (.string ByteArray.empty) (.slice none 0 0) (.slice none 0 0) (.pointer none) .nilFunc).far3 hne _ _ _).alloc _, rfl⟩, ((HK1.out.setM (.inl (.inl rfl)) _ _ _ _ _).set3 (.inr (Nat.le_refl _)) _ _ _).alloc _, fun k hk => by simp [OB, Value.ownBlock] at hk, fun k hk => by simp [OB, Value.ownBlock] at hk⟩
set_option maxHeartbeats 2000000 in
set_option maxRecDepth 100000 in
theorem line_loose_whole (w : World) (g : Nat) (proto : Int) (s : List UInt8) (body : Bool) (v : Value) (c0 : List UInt8) (c : List UInt8) (r : List (List UInt8)) (f : Value) (hb : Blk w g 51 #[.int .i64 proto, .string (strB c0), v, .slice none 0 0, .pointer none, .func (.func 25) #[.pointer (some ⟨g, 0, none⟩)] #[]]) (hv : ∀ k, OB v k → k < w.heap.size)
    (hcall : ∀ W, Kept w W NoB → Blk W g 51 #[.int .i64 proto, .string (strB c0), v, .slice none 0 0, .pointer none, .func (.func 25) #[.pointer (some ⟨g, 0, none⟩)] #[]] → Calls Tryd.prog 25 #[.pointer (some ⟨g, 0, none⟩), .string (strB s)] W (TakePost W g proto v true 0 c r f)) :
    Calls Tryd.prog 12 #[.pointer (some ⟨g, 0, none⟩), .string (strB s), .bool body] w (LinePost w g proto v (some (c, r), 0, none)) := by
  obtain ⟨⟨c0', c1', c2', c3', c4', c5'⟩, _⟩ := hb.cells6
  have HB := Lib.hid hb
  have HC := Lib.hid hcall
  have HV := Lib.hid hv
  have n3 := eql_nil
  have n4 := eql_func
  have hlt0 := hb.lt
  clear hb hcall hv
  go_enter Tryd.func12, Tryd.ntmps12
  go_wp2_with fail
  refine (HC.out _ ((Kept.refl _ _).alloc _) (HB.out.alloc _)).mono ?_
  rintro en w1 ⟨v1, rfl, hg1, hr1, hk1, ho1⟩
  have hnR : ¬ (w.heap.size = g ∨ OB v w.heap.size) := by
    rintro (e | e)
    · omega
    · exact absurd (HV.out _ e) (Nat.lt_irrefl _)
  have HR1 := Lib.hid ((Blk.new w 30 #[.string ByteArray.empty, .slice none 0 0, .slice none 0 0]).kept hk1 hnR)
  have HK1 := Lib.hid ((((Kept.refl w NoB).alloc (.cells #[.string ByteArray.empty, .slice none 0 0, .slice none 0 0] 30)).of_no (S := fun k => k = g ∨ OB v k)).trans hk1 fun b hb => .inl hb)
  have HO1 : Hid (∀ k, OB v1 k → OB v k ∨ w.heap.size < k) := fun k hk => (ho1 k hk).imp id fun h => by rw [World.size_alloc] at h; omega
  have HG1 := Lib.hid hg1
  have HW1 := Lib.hid hr1
  obtain ⟨⟨d0, d1, d2, d3, d4, d5⟩, e0, e1, e2, e3, e4, e5⟩ := hg1.cells6
  obtain ⟨r0, r1, r2, q0, q1, q2⟩ := HR1.out.cells3
  have hgl := hg1.lt
  have hrl1 := HR1.out.lt
  have hne : ¬ g = w.heap.size := by omega
  have hne' : ¬ w.heap.size = g := by omega
  have hvg : v1.ownBlock ≠ some g := hr1.ne_blk hg1 (by decide)
  have HVG := Lib.hid hvg
  have hvR : v1.ownBlock ≠ some w.heap.size := fun e => by
    rcases HO1.out _ e with h | h
    · exact absurd (HV.out _ h) (Nat.lt_irrefl _)
    · exact absurd h (Nat.lt_irrefl _)
  have HVR := Lib.hid hvR
  obtain ⟨A1, m1, k1, hv1⟩ := hr1.slice
  subst hv1
  clear hk1 hr1 hg1 ho1 hnR hvg hvR c0' c1' c2' c3' c4' c5'
  go_wp2_with fail
  refine bodyPost_ret (results_cell_row3 rfl _ _ w.heap.size 30 _ (0, 0) _ (.bool true) (.int .i64 0) rfl rfl rfl (((HR1.out.farM hne' (.string ByteArray.empty) (.slice none 0 0) (.slice none 0 0) (.pointer none) .nilFunc).set3 (.string (strB c)) (.slice A1 m1 k1) (.slice none 0 0)).alloc _) Tryd.underlying30 rfl rp_size) rfl ?_
  exact ⟨.slice A1 m1 k1, .slice none 0 0, rfl, ((HW1.out.farM HVG.out _ _ _ _ _).far3 HVR.out _ _ _).alloc _, ⟨((HG1.out.setM (.string ByteArray.empty) (.slice none 0 0) (.slice none 0 0) (.pointer none) .nilFunc).far3 hne _ _ _).alloc _, rfl⟩, ((HK1.out.setM (.inl (.inl rfl)) _ _ _ _ _).set3 (.inr (Nat.le_refl _)) _ _ _).alloc _, fun k hk => by simp [OB, Value.ownBlock] at hk, fun k hk => (HO1.out k hk).imp id fun h => by omega⟩
set_option maxHeartbeats 2000000 in
set_option maxRecDepth 100000 in
theorem line_loose_go (w : World) (g : Nat) (proto : Int) (s : List UInt8) (body : Bool) (v : Value) (c0 : List UInt8) (c : List UInt8) (r : List (List UInt8)) (f : Value) (hb : Blk w g 51 #[.int .i64 proto, .string (strB c0), v, .slice none 0 0, .pointer none, .func (.func 25) #[.pointer (some ⟨g, 0, none⟩)] #[]]) (hv : ∀ k, OB v k → k < w.heap.size) (hp : proto = 1 ∨ proto = 3) (hrl : r.length ≤ 20) (hf : f = moreF proto g)
    (hcall : ∀ W, Kept w W NoB → Blk W g 51 #[.int .i64 proto, .string (strB c0), v, .slice none 0 0, .pointer none, .func (.func 25) #[.pointer (some ⟨g, 0, none⟩)] #[]] → Calls Tryd.prog 25 #[.pointer (some ⟨g, 0, none⟩), .string (strB s)] W (TakePost W g proto v false 0 c r f)) :
    Calls Tryd.prog 12 #[.pointer (some ⟨g, 0, none⟩), .string (strB s), .bool body] w (LinePost w g proto v (none, 0, some (c, r))) := by
  obtain ⟨⟨c0', c1', c2', c3', c4', c5'⟩, _⟩ := hb.cells6
  have HB := Lib.hid hb
  have HC := Lib.hid hcall
  have HV := Lib.hid hv
  have n3 := eql_nil
  have n4 := eql_func
  have hlt0 := hb.lt
  clear hb hcall hv
  have HP := Lib.hid hp
  have HF := Lib.hid hf
  have HRL := Lib.hid hrl
  clear hp hf hrl
  go_enter Tryd.func12, Tryd.ntmps12
  go_wp2_with fail
  refine (HC.out _ ((Kept.refl _ _).alloc _) (HB.out.alloc _)).mono ?_
  rintro en w1 ⟨v1, rfl, hg1, hr1, hk1, ho1⟩
  have hnR : ¬ (w.heap.size = g ∨ OB v w.heap.size) := by
    rintro (e | e)
    · omega
    · exact absurd (HV.out _ e) (Nat.lt_irrefl _)
  have HR1 := Lib.hid ((Blk.new w 30 #[.string ByteArray.empty, .slice none 0 0, .slice none 0 0]).kept hk1 hnR)
  have HK1 := Lib.hid ((((Kept.refl w NoB).alloc (.cells #[.string ByteArray.empty, .slice none 0 0, .slice none 0 0] 30)).of_no (S := fun k => k = g ∨ OB v k)).trans hk1 fun b hb => .inl hb)
  have HO1 : Hid (∀ k, OB v1 k → OB v k ∨ w.heap.size < k) := fun k hk => (ho1 k hk).imp id fun h => by rw [World.size_alloc] at h; omega
  have HG1 := Lib.hid hg1
  have HW1 := Lib.hid hr1
  obtain ⟨⟨d0, d1, d2, d3, d4, d5⟩, e0, e1, e2, e3, e4, e5⟩ := hg1.cells6
  obtain ⟨r0, r1, r2, q0, q1, q2⟩ := HR1.out.cells3
  have hgl := hg1.lt
  have hrl1 := HR1.out.lt
  have hne : ¬ g = w.heap.size := by omega
  have hne' : ¬ w.heap.size = g := by omega
  have hvg : v1.ownBlock ≠ some g := hr1.ne_blk hg1 (by decide)
  have HVG := Lib.hid hvg
  have hvR : v1.ownBlock ≠ some w.heap.size := fun e => by
    rcases HO1.out _ e with h | h
    · exact absurd (HV.out _ h) (Nat.lt_irrefl _)
    · exact absurd h (Nat.lt_irrefl _)
  have HVR := Lib.hid hvR
  obtain ⟨A1, m1, k1, hv1⟩ := hr1.slice
  subst hv1
  clear hk1 hr1 hg1 ho1 hnR hvg hvR c0' c1' c2' c3' c4' c5'
  go_wp2_with fail
  refine bodyPost_ret (results_cell_row3 rfl _ _ w.heap.size 30 _ (0, 0) _ (.bool false) (.int .i64 0) rfl rfl rfl (HR1.out.set3 (.string ByteArray.empty) (.slice none 0 0) (.slice none 0 0)) Tryd.underlying30 rfl rp_size) rfl ?_
  exact ⟨.slice none 0 0, .slice A1 m1 k1, rfl, Row.nil _ _ _, ⟨HP.out, HRL.out, by rw [← HF.out]; exact HG1.out.far3 hne _ _ _, HW1.out.far3 HVR.out _ _ _⟩, HK1.out.set3 (.inr (Nat.le_refl _)) _ _ _, fun k hk => (HO1.out k hk).imp id fun h => by omega, fun k hk => by simp [OB, Value.ownBlock] at hk⟩
end Go.Proofs.YtamemddgajmimaaDoor
