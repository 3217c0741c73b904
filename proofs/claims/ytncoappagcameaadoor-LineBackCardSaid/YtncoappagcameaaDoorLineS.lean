/- Lines: the head of the laws; LineAll's walk. -/
import Derived.Test.YtncoappagcameaaDoorLineR2
import Derived.Laws.StructEq
set_option linter.unusedVariables false
set_option linter.unusedSimpArgs false
namespace Go.Proofs.YtncoappagcameaaDoor
open Go.RowKit Go.Shelf

@[go_sem] theorem gSt : Tryd.prog.eqGuardType Tryd.prog.depth 27 = false := by kernel_rfl
@[go_sem] theorem eqSt (a c a' c' : ByteArray) (b b' : Bool) (w : World) :
    (Op.equalIn 10000 27 (.agg #[.string a, .bool b, .string c]) (.agg #[.string a', .bool b', .string c'])).run Tryd.prog w = .ok (a.toList == a'.toList && (b == b' && c.toList == c'.toList)) w := by
  have us := Tryd.underlying9
  have ub := Tryd.underlying4
  have ias := Tryd.isAgg9
  have iab := Tryd.isAgg4
  have zs := Tryd.sizeOf9
  have zb := Tryd.sizeOf4
  have hS : Tryd.prog.underlying 27 = some (.struct (Tryd.prog.fieldsOf 27)) := by kernel_rfl
  rw [show (10000 : Nat) = 9999 + 1 from rfl, run_equalIn_agg w 9999 27 _ _ hS (by kernel_rfl)]
  simp only [Program.fieldsOf, Tryd.underlying27]
  go_simp
  by_cases h1 : a.toList = a'.toList <;> by_cases h2 : b = b' <;> by_cases h3 : c.toList = c'.toList <;> simp [h1, h2, h3]

theorem st_vals (r : Option StV) : ∃ (c : List UInt8) (m : Bool) (t : List UInt8) (b : Bool), stR r = .tuple #[.agg #[.string (strB c), .bool m, .string (strB t)], .bool b] := ⟨_, _, _, _, rfl⟩
def exLine : List UInt8 := [50, 53, 48, 45, 83, 73, 90, 69, 32, 57]
set_option maxHeartbeats 1000000 in
set_option maxRecDepth 100000 in
theorem shown_calls (w : World) (hm : MaxI w) : Calls Tryd.prog 8 #[] w fun en w' => en = .returned (.bool true) ∧ Kept w w' NoB := by
  go_enter Tryd.func8, Tryd.ntmps8
  go_wp2_with fail
  have h := status_calls w 1 exLine (by decide) hm
  rw [show statusL 1 exLine = some ([50, 53, 48], true, [83, 73, 90, 69, 32, 57]) by decide, stR_mk] at h
  refine h.mono ?_
  clear h
  rintro en w1 ⟨rfl, hk1⟩
  have HK1 := Lib.hid hk1
  clear hk1
  go_wp2_with fail
  go_ret
  exact ⟨rfl, (HK1.out.alloc _).alloc _⟩

set_option maxHeartbeats 4000000 in
set_option maxRecDepth 100000 in
theorem all_law (w : World) (proto : Int) (s0 t0 : List UInt8) (hs : s0.length ≤ 140737488351232) (ht : t0.length ≤ 140737488351232) (hm : MaxI w) :
    Calls Tryd.prog 5 #[.int .i64 proto, .string (strB s0), .string (strB t0)] w fun en w' => en = .returned (.bool true) ∧ Kept w w' NoB := by
  go_enter Tryd.func5, Tryd.ntmps5
  go_wp2_with fail
  refine (shown_calls w hm).mono ?_
  rintro en w1 ⟨rfl, hk1⟩
  have HK1 := Lib.hid hk1
  clear hk1
  go_wp2_with fail
  refine (short_calls w1 s0 hs).mono ?_
  rintro en wx ⟨rfl, rfl⟩
  obtain ⟨s, hse⟩ : ∃ s, s0.take 200 = s := ⟨_, rfl⟩
  have hsl : s.length ≤ 200 := by rw [← hse, List.length_take]; omega
  rw [hse]
  clear hse
  go_wp2_with fail
  refine (short_calls wx t0 ht).mono ?_
  rintro en wy ⟨rfl, rfl⟩
  obtain ⟨t, hte⟩ : ∃ t, t0.take 200 = t := ⟨_, rfl⟩
  have htl : t.length ≤ 200 := by rw [← hte, List.length_take]; omega
  rw [hte]
  clear hte
  obtain ⟨c, m, x, b, hst⟩ := st_vals (statusL proto s)
  have HST := Lib.hid hst
  clear hst
  go_wp2_with fail
  refine (status_calls wy proto s (by omega) (hm.kept0 HK1.out)).mono ?_
  rw [HST.out]
  rintro en w2 ⟨rfl, hk2⟩
  have HK2 := Lib.hid (HK1.out.trans' hk2)
  clear hk2
  go_wp2_with fail
  refine (refStatus_calls _ proto s (by omega)).mono ?_
  rw [HST.out]
  rintro en w3 ⟨rfl, hk3⟩
  have HK3 := Lib.hid ((HK2.out.alloc _).trans' hk3)
  have hb3 := (Blk.new w2 27 #[.string (strB c), .bool m, .string (strB x)]).kept0 hk3
  obtain ⟨c0, c1, c2, f0, f1, f2⟩ := hb3.cells3
  have hlt := hb3.lt
  clear hk3 hb3
  go_wp2_with fail
  refine (codes_calls _ proto s (by omega) (hm.kept0 (HK3.out.alloc _))).mono ?_
  obtain ⟨d, hd⟩ : ∃ d, codesL proto s = d := ⟨_, rfl⟩
  have HD := Lib.hid hd
  clear hd
  rw [HD.out]
  rintro en w4 ⟨rfl, hk4⟩
  have HK4 := Lib.hid ((HK3.out.alloc _).trans' hk4)
  clear hk4 c0 c1 c2 f0 f1 f2 hlt
  go_wp2_with fail
  refine (refCodes_calls _ proto s (by omega)).mono ?_
  rw [HD.out]
  rintro en w5 ⟨rfl, hk5⟩
  have HK5 := Lib.hid (HK4.out.trans' hk5)
  clear hk5
  go_wp2_with fail
  refine (match_calls _ s t (by omega) (hm.kept0 HK5.out)).mono ?_
  obtain ⟨e, he⟩ : ∃ d, matchL s t = d := ⟨_, rfl⟩
  have HE := Lib.hid he
  clear he
  rw [HE.out]
  rintro en w6 ⟨rfl, hk6⟩
  have HK6 := Lib.hid (HK5.out.trans' hk6)
  clear hk6
  go_wp2_with fail
  refine (refMatch_calls _ s t (by omega)).mono ?_
  rw [HE.out]
  rintro en w7 ⟨rfl, hk7⟩
  have HK7 := Lib.hid (HK6.out.trans' hk7)
  clear hk7
  go_wp2_with fail
  go_ret
  exact ⟨rfl, HK7.out⟩
theorem lineAll_walk (W : World) (a0 : Int) (a1 a2 : ByteArray) (w0 : (Lit.int .i64 a0).wf = true) (w1 : a1.size ≤ 140737488351232) (w2 : a2.size ≤ 140737488351232) (hsh : W.ShapedOpen Tryd.prog) :
    Calls Tryd.prog 5 #[.int .i64 a0, .string a1, .string a2] W fun en w' => en = .returned (.bool true) ∧ Below W.heap.size W w' := by
  obtain ⟨s, rfl, hs⟩ := strB_of a1
  obtain ⟨t, rfl, ht⟩ := strB_of a2
  exact (all_law W a0 s t (by omega) (by omega) (MaxI.of_shape hsh)).mono fun _ _ ⟨he, hk⟩ => ⟨he, hk.below⟩
end Go.Proofs.YtncoappagcameaaDoor
