/- Replies: a first line without a body: what it computes. -/
import Derived.Test.YtamemddgajmimaaDoorRepN
import Derived.Outline
import Derived.Laws.EntriesVeiled
set_option linter.unusedVariables false
set_option linter.unusedSimpArgs false
namespace Go.Proofs.YtamemddgajmimaaDoor
open Go.RowKit Go.Shelf

theorem Row.lit1 (w : World) (e : TypeId) (S : Nat → Prop) (x : Value) (hS : S w.heap.size) : Row (w.alloc (.cells #[x] e)) e S (.slice (some ⟨w.heap.size, 0, none⟩) 1 1) [x] :=
  ⟨⟨rfl, .inr ⟨w.heap.size, 1, #[x], rfl, Nat.zero_le _, heap_alloc_new w _, Nat.le_refl _, by simp [maxLen], rfl, rfl⟩⟩, fun k hk => by
    have : w.heap.size = k := by simpa [Value.ownBlock] using hk
    rw [← this]
    exact hS⟩
theorem wpList_lookupI {P : Program} {ops : Array Oper} {rest : List Oper} {o : Oper} {a : Act} {Q : Exit → Act → World → Prop} (w : World) (hg : o.guard = none) (m x : Operand) (t : TypeId) (ok : Bool) (hop : o.op = Op.lookup t m x ok) (kt et : TypeId) (ht : P.underlying t = some (.map kt et)) (hk : P.underlying kt = some (.int .i64))
    (z : Value) (hz : (zeroValue et).run P w = .ok z w) (r : Nat) (l : List (Int × Value)) (hm : a.eval m = .map (some r)) (h : IMap w r l) (k : Int) (hx : a.eval x = .int .i64 k)
    (hK : wpList P ops Q rest (a.put o.dst (if ok then .tuple #[(findI l k).getD z, .bool (findI l k).isSome] else (findI l k).getD z)) w) : wpList P ops Q (o :: rest) a w := by
  refine wpList_plain hg fun K' hK' => ?_
  have hrun := h.look ht hk hz k ok
  unfold Oper.wp
  simp [execOp, hop, hm, hx, hrun, Result.andThen]
  refine hK' _ _ ?_
  simpa using hK
theorem IMap.set {w : World} {r : Nat} {l : List (Int × Value)} (h : IMap w r l) {p : Addr} (hp : ¬ p.block = r) (u : Value) : IMap (w.setCell p u) r l :=
  h.kept ((Kept.refl w (fun k => k = p.block)).setCell (.inl rfl) u) (fun e => hp e.symm)
def moreM (g : Nat) : List (Int × Value) := [(1, strictF g), (3, looseF g)]
theorem more_find {proto : Int} (h : proto = 1 ∨ proto = 3) (g : Nat) : (findI (moreM g) proto).getD .nilFunc = moreF proto g := by
  rcases h with rfl | rfl <;> rfl
theorem zfn : ∀ w, (zeroValue 44).run Tryd.prog w = .ok .nilFunc w := by
  intro w
  kernel_rfl
set_option maxHeartbeats 1000000 in
set_option maxRecDepth 100000 in
theorem begin_bad (w : World) (g : Nat) (proto : Int) (s : List UInt8) (body : Bool) (b c d e f : Value) (hb : Blk w g 51 #[.int .i64 proto, b, c, d, e, f]) (hl : s.length ≤ 1099511627) (hm : MaxI w) (h : statusL proto s = none) :
    Calls Tryd.prog 20 #[.pointer (some ⟨g, 0, none⟩), .string (strB s), .bool body] w fun en w' => en = .returned (.tuple #[.bool false, .int .i64 63]) ∧ Kept w w' NoB := by
  obtain ⟨⟨c0, _, _, _, _, _⟩, _⟩ := hb.cells6
  have HS := Lib.hid h
  clear hb h
  go_enter Tryd.func20, Tryd.ntmps20
  go_wp2_with fail
  refine (status_at _ proto s _ _ hl hm HS.out stR_none).mono ?_
  rintro en w1 ⟨rfl, hk1⟩
  have HK1 := Lib.hid hk1
  clear hk1 c0
  go_wp2_with fail
  go_ret2
  exact ⟨rfl, HK1.out.alloc _⟩
def BegPost (w : World) (g : Nat) (proto : Int) (c t : List UInt8) (m : Bool) (f : Value) (en : Ending) (w' : World) : Prop :=
  ∃ v', en = .returned (.tuple #[.bool (!m), .int .i64 0]) ∧ Blk w' g 51 #[.int .i64 proto, .string (strB c), v', .slice none 0 0, .pointer none, f] ∧ Row w' 9 anyB v' (strs [t]) ∧ Kept w w' (fun k => k = g) ∧ ∀ k, OB v' k → w.heap.size ≤ k
set_option maxHeartbeats 2000000 in
set_option maxRecDepth 100000 in
theorem begin_ok (w : World) (g : Nat) (proto : Int) (c s t : List UInt8) (m body : Bool) (b0 b1 b2 : Value) (hb : Blk w g 51 #[.int .i64 proto, b0, b1, b2, .pointer none, .nilFunc]) (hl : s.length ≤ 1099511627) (hm : MaxI w) (h : statusL proto s = some (c, m, t)) (hbody : ¬ (proto = 2 ∧ body = true)) (nf : Value) (hnf : (if m then moreF proto g else .nilFunc) = nf) :
    Calls Tryd.prog 20 #[.pointer (some ⟨g, 0, none⟩), .string (strB s), .bool body] w (BegPost w g proto c t m nf) := by
  obtain ⟨⟨c0, _, _, _, _, _⟩, _⟩ := hb.cells6
  have HB := Lib.hid hb
  have HS := Lib.hid h
  have HNF := Lib.hid hnf
  have hmk : ∀ W : World, (Instr.makeMap 60 none).run Tryd.prog W = .ok (.map (some W.heap.size)) (W.alloc (.map #[] 0)) := fun W => rfl
  have hmp : m = true → proto = 1 ∨ proto = 3 := fun e => by subst e; exact status_more h
  have HMP := Lib.hid hmp
  have hum := Tryd.underlying60
  have hui := Tryd.underlying3
  have HUM := Lib.hid hum
  have HUI := Lib.hid hui
  have n1 := neq_nil
  have n2 := neq_func
  have n3 := eql_nil
  have n4 := eql_func
  clear hb h hum hui hmp hnf
  go_enter Tryd.func20, Tryd.ntmps20
  go_wp2_with fail
  refine (status_at _ proto s _ _ hl hm HS.out (stR_mk _ _ _)).mono ?_
  rintro en w1 ⟨rfl, hk1⟩
  have HK1 := Lib.hid hk1
  have hlt := (HB.out.kept0 hk1).lt
  obtain ⟨⟨d0, d1, d2, d3, d4, d5⟩, e0, e1, e2, e3, e4, e5⟩ := (HB.out.kept0 hk1).cells6
  have HB1 := Lib.hid (HB.out.kept0 hk1)
  have hm0 : IMap ((w1.alloc (.cells #[.string (strB c), .bool m, .string (strB t)] 54)).alloc (.map #[] 0)) (w1.heap.size + 1) [] := by
    have := IMap.new (w1.alloc (.cells #[.string (strB c), .bool m, .string (strB t)] 54))
    rwa [World.size_alloc] at this
  have HX0 := Lib.hid ((Blk.new w1 54 #[.string (strB c), .bool m, .string (strB t)]).alloc (.map #[] 0))
  have HG0 := Lib.hid ((HB1.out.alloc (.cells #[.string (strB c), .bool m, .string (strB t)] 54)).alloc (.map #[] 0))
  have HK0 := Lib.hid ((HK1.out.alloc (.cells #[.string (strB c), .bool m, .string (strB t)] 54)).alloc (.map #[] 0))
  have HM0 := Lib.hid hm0
  clear hk1 c0 hm0
  go_wp2_with (first
    | (refine wpList_insertI _ rfl _ _ _ 60 rfl _ _ HUM.out HUI.out (w1.heap.size + 1) _ rfl HM0.out 1 _ rfl rfl ?_; intro wa ma ka)
    | (refine wpList_insertI _ rfl _ _ _ 60 rfl _ _ HUM.out HUI.out (w1.heap.size + 1) _ rfl ma 3 _ rfl rfl ?_))
  intro wb mb kb
  have hkab : Kept _ wb (fun b => b = w1.heap.size + 1) := ka.trans kb fun b hb => .inl hb
  have HXB := Lib.hid (HX0.out.kept hkab (by omega))
  have HGB := Lib.hid (HG0.out.kept hkab (by omega))
  have HKB := Lib.hid (HK0.out.trans hkab fun b hb => .inr (by have := HK1.out.size; omega))
  have HMB : Hid (IMap wb (w1.heap.size + 1) (moreM g)) := mb
  obtain ⟨x0, x1, x2, _, _, _⟩ := HXB.out.cells3
  obtain ⟨⟨y0, y1, y2, y3, y4, y5⟩, z0, z1, z2, z3, z4, z5⟩ := HGB.out.cells6
  have hgne : ¬ g = w1.heap.size := by omega
  have hgne' : ¬ w1.heap.size = g := by omega
  have hgw := HGB.out.lt
  have hxw := HXB.out.lt
  clear ma ka mb kb hkab d0 d1 d2 d3 d4 d5 e0 e1 e2 e3 e4 e5 HX0 HG0 HK0 HM0
  have hgb : g ≠ wb.heap.size := by omega
  have hob : (Value.slice (some ⟨wb.heap.size, 0, none⟩) 1 1).ownBlock ≠ some g := by
    intro e
    have : wb.heap.size = g := by simpa [Value.ownBlock] using e
    omega
  have hwb : w.heap.size ≤ wb.heap.size := HKB.out.size
  have hs3 : (((wb.setCell ⟨g, 1, none⟩ (.string (strB c))).setCell ⟨g, 2, none⟩ (.slice (some ⟨wb.heap.size, 0, none⟩) 1 1)).setCell ⟨g, 3, none⟩ (.slice none 0 0)).heap.size = wb.heap.size := by simp [World.setCell]
  have hrow := Row.lit1 (((wb.setCell ⟨g, 1, none⟩ (.string (strB c))).setCell ⟨g, 2, none⟩ (.slice (some ⟨wb.heap.size, 0, none⟩) 1 1)).setCell ⟨g, 3, none⟩ (.slice none 0 0)) 9 anyB (.string (strB t)) trivial
  rw [hs3] at hrow
  have hblk := (((HGB.out.set_ 1 (.string (strB c))).set_ 2 (.slice (some ⟨wb.heap.size, 0, none⟩) 1 1)).set_ 3 (.slice none 0 0)).alloc (.cells #[.string (strB t)] 9)
  have hkp : Kept w ((((wb.setCell ⟨g, 1, none⟩ (.string (strB c))).setCell ⟨g, 2, none⟩ (.slice (some ⟨wb.heap.size, 0, none⟩) 1 1)).setCell ⟨g, 3, none⟩ (.slice none 0 0)).alloc (.cells #[.string (strB t)] 9)) (fun k => k = g) :=
    ((((HKB.out.of_no (S := fun k => k = g)).setCell (p := ⟨g, 1, none⟩) (.inl rfl) _).setCell (p := ⟨g, 2, none⟩) (.inl rfl) _).setCell (p := ⟨g, 3, none⟩) (.inl rfl) _).alloc _
  have himp := (((HMB.out.set (p := ⟨g, 1, none⟩) (show ¬ g = w1.heap.size + 1 by omega) (.string (strB c))).set (p := ⟨g, 2, none⟩) (show ¬ g = w1.heap.size + 1 by omega) (.slice (some ⟨wb.heap.size, 0, none⟩) 1 1)).set (p := ⟨g, 3, none⟩) (show ¬ g = w1.heap.size + 1 by omega) (.slice none 0 0)).alloc (.cells #[.string (strB t)] 9)
  have hon : ∀ k, OB (Value.slice (some ⟨wb.heap.size, 0, none⟩) 1 1) k → w.heap.size ≤ k := fun k hk => by
    have : wb.heap.size = k := by simpa [OB, Value.ownBlock] using hk
    omega
  have HROW := Lib.hid hrow
  have HBLK := Lib.hid hblk
  have HKP := Lib.hid hkp
  have HIMP := Lib.hid himp
  have HON := Lib.hid hon
  have HOB := Lib.hid hob
  clear hrow hblk hkp himp hon hob hs3
  cases m with
  | false =>
    have hp2 : (proto == 2) = false ∨ ((proto == 2) = true ∧ body = false) := by
      by_cases e : proto = 2
      · refine .inr ⟨beq_iff_eq.2 e, ?_⟩
        cases body with
        | false => rfl
        | true => exact absurd ⟨e, rfl⟩ hbody
      · exact .inl (beq_eq_false_iff_ne.2 e)
    clear hbody
    rcases hp2 with hp | ⟨hp, rfl⟩
    all_goals
      go_wp2_with fail
      go_ret2
      exact ⟨_, rfl, by rw [← HNF.out]; exact HBLK.out, HROW.out, HKP.out, HON.out⟩
  | true =>
    have hp := HMP.out rfl
    have hfd := more_find hp g
    have HFD := Lib.hid hfd
    have hp2 : (proto == 2) = false := beq_eq_false_iff_ne.2 (by omega)
    have hmf : ∃ f, moreF proto g = .func (.func f) #[.pointer (some ⟨g, 0, none⟩)] #[] := by
      unfold moreF strictF looseF
      split
      · exact ⟨_, rfl⟩
      · exact ⟨_, rfl⟩
    obtain ⟨ff, hff⟩ := hmf
    rw [hff] at HFD
    have HFF := Lib.hid hff
    clear hp hfd hbody hff
    go_wp2_with (at_lookup; refine wpList_lookupI _ rfl _ _ 60 false rfl _ _ HUM.out HUI.out .nilFunc (zfn _) (w1.heap.size + 1) (moreM g) rfl HIMP.out proto rfl ?_; rw [if_neg Bool.false_ne_true, HFD.out])
    go_ret2
    have hs4 : ((((wb.setCell ⟨g, 1, none⟩ (.string (strB c))).setCell ⟨g, 2, none⟩ (.slice (some ⟨wb.heap.size, 0, none⟩) 1 1)).setCell ⟨g, 3, none⟩ (.slice none 0 0)).setCell ⟨g, 5, none⟩ (.func (.func ff) #[.pointer (some ⟨g, 0, none⟩)] #[])).heap.size = wb.heap.size := by simp [World.setCell]
    have hrow := Row.lit1 ((((wb.setCell ⟨g, 1, none⟩ (.string (strB c))).setCell ⟨g, 2, none⟩ (.slice (some ⟨wb.heap.size, 0, none⟩) 1 1)).setCell ⟨g, 3, none⟩ (.slice none 0 0)).setCell ⟨g, 5, none⟩ (.func (.func ff) #[.pointer (some ⟨g, 0, none⟩)] #[])) 9 anyB (.string (strB t)) trivial
    rw [hs4] at hrow
    refine ⟨_, rfl, ?_, hrow, (((((HKB.out.of_no (S := fun k => k = g)).setCell (p := ⟨g, 1, none⟩) (.inl rfl) _).setCell (p := ⟨g, 2, none⟩) (.inl rfl) _).setCell (p := ⟨g, 3, none⟩) (.inl rfl) _).setCell (p := ⟨g, 5, none⟩) (.inl rfl) _).alloc _, HON.out⟩
    rw [← HNF.out, if_pos (by trivial), HFF.out]
    exact ((((HGB.out.set_ 1 (.string (strB c))).set_ 2 (.slice (some ⟨wb.heap.size, 0, none⟩) 1 1)).set_ 3 (.slice none 0 0)).set_ 5 _).alloc (.cells #[.string (strB t)] 9)
end Go.Proofs.YtamemddgajmimaaDoor
