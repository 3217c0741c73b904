/- Replies of Pop3 with a body asked for: begin. -/
import Derived.Test.YtamemddgajmimaaDoorStuff3
import Derived.Test.YtamemddgajmimaaDoorRepB
import Derived.Laws.EntriesVeiled
set_option linter.unusedVariables false
set_option linter.unusedSimpArgs false
namespace Go.Proofs.YtamemddgajmimaaDoor
open Go.RowKit Go.Shelf

set_option maxHeartbeats 4000000 in
set_option maxRecDepth 100000 in
theorem begin_minus (w : World) (g : Nat) (proto : Int) (c s t : List UInt8) (m body : Bool) (b0 b1 b2 : Value) (hm0 : m = false) (hp0 : proto = 2) (hb0 : body = true) (hc0 : c ≠ [43]) (hb : Blk w g 51 #[.int .i64 proto, b0, b1, b2, .pointer none, .nilFunc]) (hl : s.length ≤ 1099511627) (hm : MaxI w) (h : statusL proto s = some (c, m, t)) :
    Calls Tryd.prog 20 #[.pointer (some ⟨g, 0, none⟩), .string (strB s), .bool body] w (BegPost w g proto c t m .nilFunc) := by
  obtain ⟨⟨c0, _, _, _, _, _⟩, _⟩ := hb.cells6
  have HB := Lib.hid hb
  have HS := Lib.hid h
  have hmk : ∀ W : World, (Instr.makeMap 60 none).run Tryd.prog W = .ok (.map (some W.heap.size)) (W.alloc (.map #[] 0)) := fun W => rfl
  have hmp : m = true → proto = 1 ∨ proto = 3 := fun e => by subst e; exact status_more h
  have HMP := Lib.hid hmp
  have hum := Tryd.underlying60
  have hui := Tryd.underlying3
  have HUM := Lib.hid hum
  have HUI := Lib.hid hui
  have HM0 := Lib.hid hm0
  have HP0 := Lib.hid hp0
  have HB0 := Lib.hid hb0
  have HC0 := Lib.hid hc0
  have n1 := neq_nil
  have n2 := neq_func
  have n3 := eql_nil
  have n4 := eql_func
  clear hb h hum hui hmp hm0 hp0 hb0 hc0
  go_enter Tryd.func20, Tryd.ntmps20
  go_wp2_with fail
  refine (status_at _ proto s _ _ hl hm HS.out (stR_mk _ _ _)).mono ?_
  rintro en w1 ⟨rfl, hk1⟩
  have HK1 := Lib.hid hk1
  have hlt := (HB.out.kept0 hk1).lt
  obtain ⟨⟨d0, d1, d2, d3, d4, d5⟩, e0, e1, e2, e3, e4, e5⟩ := (HB.out.kept0 hk1).cells6
  have HB1 := Lib.hid (HB.out.kept0 hk1)
  have hm0 : IMap ((w1.alloc (.cells #[.string (strB c), .bool m, .string (strB t)] 54)).alloc (.map #[] 0)) (w1.heap.size + 1) [] := by
    have := IMap.new (w1.alloc (.cells #[.string (strB c), .bool m, .string (strB t)] 54))
    rwa [World.size_alloc] at this
  have HX0 := Lib.hid ((Blk.new w1 54 #[.string (strB c), .bool m, .string (strB t)]).alloc (.map #[] 0))
  have HG0 := Lib.hid ((HB1.out.alloc (.cells #[.string (strB c), .bool m, .string (strB t)] 54)).alloc (.map #[] 0))
  have HK0 := Lib.hid ((HK1.out.alloc (.cells #[.string (strB c), .bool m, .string (strB t)] 54)).alloc (.map #[] 0))
  have HM0 := Lib.hid hm0
  clear hk1 c0 hm0
  go_wp2_with (first
    | (refine wpList_insertI _ rfl _ _ _ 60 rfl _ _ HUM.out HUI.out (w1.heap.size + 1) _ rfl HM0.out 1 _ rfl rfl ?_; intro wa ma ka)
    | (refine wpList_insertI _ rfl _ _ _ 60 rfl _ _ HUM.out HUI.out (w1.heap.size + 1) _ rfl ma 3 _ rfl rfl ?_))
  intro wb mb kb
  have hkab : Kept _ wb (fun b => b = w1.heap.size + 1) := ka.trans kb fun b hb => .inl hb
  have HXB := Lib.hid (HX0.out.kept hkab (by omega))
  have HGB := Lib.hid (HG0.out.kept hkab (by omega))
  have HKB := Lib.hid (HK0.out.trans hkab fun b hb => .inr (by have := HK1.out.size; omega))
  have HMB : Hid (IMap wb (w1.heap.size + 1) (moreM g)) := mb
  obtain ⟨x0, x1, x2, _, _, _⟩ := HXB.out.cells3
  obtain ⟨⟨y0, y1, y2, y3, y4, y5⟩, z0, z1, z2, z3, z4, z5⟩ := HGB.out.cells6
  have hgne : ¬ g = w1.heap.size := by omega
  have hgne' : ¬ w1.heap.size = g := by omega
  have hgw := HGB.out.lt
  have hxw := HXB.out.lt
  clear ma ka mb kb hkab d0 d1 d2 d3 d4 d5 e0 e1 e2 e3 e4 e5 HX0 HG0 HK0 HM0
  have hgb : g ≠ wb.heap.size := by omega
  have hob : (Value.slice (some ⟨wb.heap.size, 0, none⟩) 1 1).ownBlock ≠ some g := by
    intro e
    have : wb.heap.size = g := by simpa [Value.ownBlock] using e
    omega
  have hwb : w.heap.size ≤ wb.heap.size := HKB.out.size
  have hs3 : (((wb.setCell ⟨g, 1, none⟩ (.string (strB c))).setCell ⟨g, 2, none⟩ (.slice (some ⟨wb.heap.size, 0, none⟩) 1 1)).setCell ⟨g, 3, none⟩ (.slice none 0 0)).heap.size = wb.heap.size := by simp [World.setCell]
  have hrow := Row.lit1 (((wb.setCell ⟨g, 1, none⟩ (.string (strB c))).setCell ⟨g, 2, none⟩ (.slice (some ⟨wb.heap.size, 0, none⟩) 1 1)).setCell ⟨g, 3, none⟩ (.slice none 0 0)) 9 anyB (.string (strB t)) trivial
  rw [hs3] at hrow
  have hblk := (((HGB.out.set_ 1 (.string (strB c))).set_ 2 (.slice (some ⟨wb.heap.size, 0, none⟩) 1 1)).set_ 3 (.slice none 0 0)).alloc (.cells #[.string (strB t)] 9)
  have hkp : Kept w ((((wb.setCell ⟨g, 1, none⟩ (.string (strB c))).setCell ⟨g, 2, none⟩ (.slice (some ⟨wb.heap.size, 0, none⟩) 1 1)).setCell ⟨g, 3, none⟩ (.slice none 0 0)).alloc (.cells #[.string (strB t)] 9)) (fun k => k = g) :=
    ((((HKB.out.of_no (S := fun k => k = g)).setCell (p := ⟨g, 1, none⟩) (.inl rfl) _).setCell (p := ⟨g, 2, none⟩) (.inl rfl) _).setCell (p := ⟨g, 3, none⟩) (.inl rfl) _).alloc _
  have himp := (((HMB.out.set (p := ⟨g, 1, none⟩) (show ¬ g = w1.heap.size + 1 by omega) (.string (strB c))).set (p := ⟨g, 2, none⟩) (show ¬ g = w1.heap.size + 1 by omega) (.slice (some ⟨wb.heap.size, 0, none⟩) 1 1)).set (p := ⟨g, 3, none⟩) (show ¬ g = w1.heap.size + 1 by omega) (.slice none 0 0)).alloc (.cells #[.string (strB t)] 9)
  have hon : ∀ k, OB (Value.slice (some ⟨wb.heap.size, 0, none⟩) 1 1) k → w.heap.size ≤ k := fun k hk => by
    have : wb.heap.size = k := by simpa [OB, Value.ownBlock] using hk
    omega
  have HROW := Lib.hid hrow
  have HBLK := Lib.hid hblk
  have HKP := Lib.hid hkp
  have HIMP := Lib.hid himp
  have HON := Lib.hid hon
  have HOB := Lib.hid hob
  clear hrow hblk hkp himp hon hob hs3
  obtain rfl := HM0.out
  have hp : (proto == 2) = true := beq_iff_eq.2 HP0.out
  obtain rfl := HB0.out
  have hc1 : (c == [43]) = false := beq_eq_false_iff_ne.2 HC0.out
  have hc2 : (strB c == (⟨#[43]⟩ : ByteArray)) = false := by rw [show (⟨#[43]⟩ : ByteArray) = strB [43] from rfl, strB_beq]; exact decide_eq_false HC0.out
  go_wp2_with fail
  go_ret2
  exact ⟨_, rfl, HBLK.out, HROW.out, HKP.out, HON.out⟩
/-- The maker in the middle of a body. -/
def MkB (w : World) (g : Nat) (c t : List UInt8) (v : Value) (q : Nat) (l : List UInt8) (n : Nat) (vb : Value) : Prop :=
  Blk w g 51 #[.int .i64 2, .string (strB c), v, .slice none 0 0, .pointer (some ⟨q, 0, none⟩), bodiedF g] ∧ Row w 9 anyB v (strs [t]) ∧ BdR w 68 q 1000 l n vb
set_option maxHeartbeats 4000000 in
set_option maxRecDepth 100000 in
theorem begin_plus (w : World) (g : Nat) (proto : Int) (c s t : List UInt8) (m body : Bool) (b0 b1 b2 : Value) (hm0 : m = false) (hp0 : proto = 2) (hb0 : body = true) (hc0 : c = [43]) (hb : Blk w g 51 #[.int .i64 proto, b0, b1, b2, .pointer none, .nilFunc]) (hl : s.length ≤ 1099511627) (hm : MaxI w) (h : statusL proto s = some (c, m, t)) :
    Calls Tryd.prog 20 #[.pointer (some ⟨g, 0, none⟩), .string (strB s), .bool body] w fun en w' => en = .returned (.tuple #[.bool false, .int .i64 0]) ∧ ∃ v q, MkB w' g c t v q [] 0 (.slice none 0 0) ∧ Kept w w' (fun k => k = g) ∧ (∀ k, OB v k → w.heap.size ≤ k) ∧ w.heap.size ≤ q := by
  obtain ⟨⟨c0, _, _, _, _, _⟩, _⟩ := hb.cells6
  have HB := Lib.hid hb
  have HS := Lib.hid h
  have hmk : ∀ W : World, (Instr.makeMap 60 none).run Tryd.prog W = .ok (.map (some W.heap.size)) (W.alloc (.map #[] 0)) := fun W => rfl
  have hmp : m = true → proto = 1 ∨ proto = 3 := fun e => by subst e; exact status_more h
  have HMP := Lib.hid hmp
  have hum := Tryd.underlying60
  have hui := Tryd.underlying3
  have HUM := Lib.hid hum
  have HUI := Lib.hid hui
  have HM0 := Lib.hid hm0
  have HP0 := Lib.hid hp0
  have HB0 := Lib.hid hb0
  have HC0 := Lib.hid hc0
  have n1 := neq_nil
  have n2 := neq_func
  have n3 := eql_nil
  have n4 := eql_func
  clear hb h hum hui hmp hm0 hp0 hb0 hc0
  go_enter Tryd.func20, Tryd.ntmps20
  go_wp2_with fail
  refine (status_at _ proto s _ _ hl hm HS.out (stR_mk _ _ _)).mono ?_
  rintro en w1 ⟨rfl, hk1⟩
  have HK1 := Lib.hid hk1
  have hlt := (HB.out.kept0 hk1).lt
  obtain ⟨⟨d0, d1, d2, d3, d4, d5⟩, e0, e1, e2, e3, e4, e5⟩ := (HB.out.kept0 hk1).cells6
  have HB1 := Lib.hid (HB.out.kept0 hk1)
  have hm0 : IMap ((w1.alloc (.cells #[.string (strB c), .bool m, .string (strB t)] 54)).alloc (.map #[] 0)) (w1.heap.size + 1) [] := by
    have := IMap.new (w1.alloc (.cells #[.string (strB c), .bool m, .string (strB t)] 54))
    rwa [World.size_alloc] at this
  have HX0 := Lib.hid ((Blk.new w1 54 #[.string (strB c), .bool m, .string (strB t)]).alloc (.map #[] 0))
  have HG0 := Lib.hid ((HB1.out.alloc (.cells #[.string (strB c), .bool m, .string (strB t)] 54)).alloc (.map #[] 0))
  have HK0 := Lib.hid ((HK1.out.alloc (.cells #[.string (strB c), .bool m, .string (strB t)] 54)).alloc (.map #[] 0))
  have HM0 := Lib.hid hm0
  clear hk1 c0 hm0
  go_wp2_with (first
    | (refine wpList_insertI _ rfl _ _ _ 60 rfl _ _ HUM.out HUI.out (w1.heap.size + 1) _ rfl HM0.out 1 _ rfl rfl ?_; intro wa ma ka)
    | (refine wpList_insertI _ rfl _ _ _ 60 rfl _ _ HUM.out HUI.out (w1.heap.size + 1) _ rfl ma 3 _ rfl rfl ?_))
  intro wb mb kb
  have hkab : Kept _ wb (fun b => b = w1.heap.size + 1) := ka.trans kb fun b hb => .inl hb
  have HXB := Lib.hid (HX0.out.kept hkab (by omega))
  have HGB := Lib.hid (HG0.out.kept hkab (by omega))
  have HKB := Lib.hid (HK0.out.trans hkab fun b hb => .inr (by have := HK1.out.size; omega))
  have HMB : Hid (IMap wb (w1.heap.size + 1) (moreM g)) := mb
  obtain ⟨x0, x1, x2, _, _, _⟩ := HXB.out.cells3
  obtain ⟨⟨y0, y1, y2, y3, y4, y5⟩, z0, z1, z2, z3, z4, z5⟩ := HGB.out.cells6
  have hgne : ¬ g = w1.heap.size := by omega
  have hgne' : ¬ w1.heap.size = g := by omega
  have hgw := HGB.out.lt
  have hxw := HXB.out.lt
  clear ma ka mb kb hkab d0 d1 d2 d3 d4 d5 e0 e1 e2 e3 e4 e5 HX0 HG0 HK0 HM0
  have hgb : g ≠ wb.heap.size := by omega
  have hob : (Value.slice (some ⟨wb.heap.size, 0, none⟩) 1 1).ownBlock ≠ some g := by
    intro e
    have : wb.heap.size = g := by simpa [Value.ownBlock] using e
    omega
  have hwb : w.heap.size ≤ wb.heap.size := HKB.out.size
  have hs3 : (((wb.setCell ⟨g, 1, none⟩ (.string (strB c))).setCell ⟨g, 2, none⟩ (.slice (some ⟨wb.heap.size, 0, none⟩) 1 1)).setCell ⟨g, 3, none⟩ (.slice none 0 0)).heap.size = wb.heap.size := by simp [World.setCell]
  have hrow := Row.lit1 (((wb.setCell ⟨g, 1, none⟩ (.string (strB c))).setCell ⟨g, 2, none⟩ (.slice (some ⟨wb.heap.size, 0, none⟩) 1 1)).setCell ⟨g, 3, none⟩ (.slice none 0 0)) 9 anyB (.string (strB t)) trivial
  rw [hs3] at hrow
  have hblk := (((HGB.out.set_ 1 (.string (strB c))).set_ 2 (.slice (some ⟨wb.heap.size, 0, none⟩) 1 1)).set_ 3 (.slice none 0 0)).alloc (.cells #[.string (strB t)] 9)
  have hkp : Kept w ((((wb.setCell ⟨g, 1, none⟩ (.string (strB c))).setCell ⟨g, 2, none⟩ (.slice (some ⟨wb.heap.size, 0, none⟩) 1 1)).setCell ⟨g, 3, none⟩ (.slice none 0 0)).alloc (.cells #[.string (strB t)] 9)) (fun k => k = g) :=
    ((((HKB.out.of_no (S := fun k => k = g)).setCell (p := ⟨g, 1, none⟩) (.inl rfl) _).setCell (p := ⟨g, 2, none⟩) (.inl rfl) _).setCell (p := ⟨g, 3, none⟩) (.inl rfl) _).alloc _
  have himp := (((HMB.out.set (p := ⟨g, 1, none⟩) (show ¬ g = w1.heap.size + 1 by omega) (.string (strB c))).set (p := ⟨g, 2, none⟩) (show ¬ g = w1.heap.size + 1 by omega) (.slice (some ⟨wb.heap.size, 0, none⟩) 1 1)).set (p := ⟨g, 3, none⟩) (show ¬ g = w1.heap.size + 1 by omega) (.slice none 0 0)).alloc (.cells #[.string (strB t)] 9)
  have hon : ∀ k, OB (Value.slice (some ⟨wb.heap.size, 0, none⟩) 1 1) k → w.heap.size ≤ k := fun k hk => by
    have : wb.heap.size = k := by simpa [OB, Value.ownBlock] using hk
    omega
  have HROW := Lib.hid hrow
  have HBLK := Lib.hid hblk
  have HKP := Lib.hid hkp
  have HIMP := Lib.hid himp
  have HON := Lib.hid hon
  have HOB := Lib.hid hob
  clear hrow hblk hkp himp hon hob hs3
  obtain rfl := HM0.out
  have hp : (proto == 2) = true := beq_iff_eq.2 HP0.out
  obtain rfl := HB0.out
  have hc1 : (c == [43]) = true := beq_iff_eq.2 HC0.out
  have hc2 : (strB c == (⟨#[43]⟩ : ByteArray)) = true := by rw [show (⟨#[43]⟩ : ByteArray) = strB [43] from rfl, strB_beq]; exact decide_eq_true HC0.out
  go_wp2_with fail
  refine (stuffNew_calls _ 1000).mono ?_
  rintro en w5 ⟨rfl, hw5⟩
  have hn5 := Blk.new ((((wb.setCell ⟨g, 1, none⟩ (.string (strB c))).setCell ⟨g, 2, none⟩ (.slice (some ⟨wb.heap.size, 0, none⟩) 1 1)).setCell ⟨g, 3, none⟩ (.slice none 0 0)).alloc (.cells #[.string (strB t)] 9)) 68 #[.slice none 0 0, .int .i64 0, .int .i64 ((1000 : Nat) : Int)]
  have hb5 := HBLK.out.alloc (.cells #[.slice none 0 0, .int .i64 0, .int .i64 ((1000 : Nat) : Int)] 68)
  have hr5 := HROW.out.alloc (.cells #[.slice none 0 0, .int .i64 0, .int .i64 ((1000 : Nat) : Int)] 68)
  have hk5 := HKP.out.alloc (.cells #[.slice none 0 0, .int .i64 0, .int .i64 ((1000 : Nat) : Int)] 68)
  obtain ⟨q, hq⟩ : ∃ q, ((((wb.setCell ⟨g, 1, none⟩ (.string (strB c))).setCell ⟨g, 2, none⟩ (.slice (some ⟨wb.heap.size, 0, none⟩) 1 1)).setCell ⟨g, 3, none⟩ (.slice none 0 0)).alloc (.cells #[.string (strB t)] 9)).heap.size = q := ⟨_, rfl⟩
  have hwq : w.heap.size ≤ q := by rw [← hq]; exact HKP.out.size
  rw [hq] at hn5 ⊢
  rw [← hw5] at hn5 hb5 hr5 hk5
  have hb6 : Blk w5 g 51 #[.int .i64 2, .string (strB c), .slice (some ⟨wb.heap.size, 0, none⟩) 1 1, .slice none 0 0, .pointer none, .nilFunc] := by rw [← HP0.out]; exact hb5
  obtain ⟨⟨u0, u1, u2, u3, u4, u5⟩, v0, v1, v2, v3, v4, v5⟩ := hb6.cells6
  have hqg : ¬ q = g := fun e => by subst e; exact absurd (hn5.symm.trans hb6) (by simp)
  have HB6 := Lib.hid hb6
  have HN5 := Lib.hid hn5
  have HR5 := Lib.hid hr5
  have HK5 := Lib.hid hk5
  have HWQ := Lib.hid hwq
  have HQG := Lib.hid hqg
  clear hw5 hn5 hb5 hr5 hk5 hq hwq hb6 hqg y0 y1 y2 y3 y4 y5 z0 z1 z2 z3 z4 z5
  go_wp2_with fail
  go_ret2
  exact ⟨rfl, _, q, ⟨(HB6.out.set_ 4 (.pointer (some ⟨q, 0, none⟩))).set_ 5 (bodiedF g), (HR5.out.far (p := ⟨g, 4, none⟩) HOB.out _).far (p := ⟨g, 5, none⟩) HOB.out _, (HN5.out.far (p := ⟨g, 4, none⟩) HQG.out _).far (p := ⟨g, 5, none⟩) HQG.out _, Row.nil _ _ _⟩, (HK5.out.setCell (p := ⟨g, 4, none⟩) (.inl rfl) _).setCell (p := ⟨g, 5, none⟩) (.inl rfl) _, HON.out, HWQ.out⟩
end Go.Proofs.YtamemddgajmimaaDoor
