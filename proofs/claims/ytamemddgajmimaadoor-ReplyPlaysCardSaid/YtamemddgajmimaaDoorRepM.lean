/- Replies: a maker and its steps without a body: what the program computes. -/
import Derived.Test.YtamemddgajmimaaDoorLineV
import Derived.Test.YtamemddgajmimaaDoorMapI
import Derived.Deep.RegionHeld3
set_option linter.unusedVariables false
set_option linter.unusedSimpArgs false
namespace Go.Proofs.YtamemddgajmimaaDoor
open Go.RowKit Go.Shelf

/-! ### Plain -/
abbrev Rp := List UInt8 × List (List UInt8)
def lastF (proto : Int) (c s : List UInt8) : Option (List UInt8) :=
  match statusL proto s with
  | some (c', false, t) => if c' = c then some t else none
  | _ => none
def stepM (proto : Int) (st : Option Rp) (s : List UInt8) : Option Rp × Int × Option Rp :=
  match st with
  | none =>
    match statusL proto s with
    | none => (none, 63, none)
    | some (c, m, t) => if m then (none, 0, some (c, [t])) else (some (c, [t]), 0, none)
  | some (c, ls) =>
    if proto = 1 then
      match statusL proto s with
      | some (c', m, t) => if c' = c then (if 20 ≤ ls.length then (none, 72, none) else if m then (none, 0, some (c, ls ++ [t])) else (some (c, ls ++ [t]), 0, none)) else (none, 63, none)
      | none => (none, 63, none)
    else
      match lastF proto c s with
      | some t => if 20 ≤ ls.length then (none, 72, none) else (some (c, ls ++ [t]), 0, none)
      | none => if 20 ≤ ls.length then (none, 72, none) else (none, 0, some (c, ls ++ [s]))
theorem status_more {proto : Int} {s c t : List UInt8} (h : statusL proto s = some (c, true, t)) : proto = 1 ∨ proto = 3 := by
  unfold statusL at h
  split at h
  · assumption
  · split at h
    · have := (signed_some h).2
      simp at this
    · cases h

/-! ### In memory -/
theorem info_str : (Tryd.prog.info? 9).map (fun i => (i.zero, i.size, i.bytes)) = some (some (.string ByteArray.empty), 1, 16) := by kernel_rfl
def strictF (g : Nat) : Value := .func (.func 24) #[.pointer (some ⟨g, 0, none⟩)] #[]
def looseF (g : Nat) : Value := .func (.func 25) #[.pointer (some ⟨g, 0, none⟩)] #[]
def moreF (proto : Int) (g : Nat) : Value := if proto = 1 then strictF g else looseF g
abbrev anyB : Nat → Prop := fun _ => True
/-- The maker's state: at rest, or in the middle of a reply (its lines in a row of the maker's own). -/
def MkSt (w : World) (g : Nat) (proto : Int) (st : Option Rp) (v : Value) : Prop :=
  match st with
  | none => Blk w g 51 #[.int .i64 proto, .string ByteArray.empty, .slice none 0 0, .slice none 0 0, .pointer none, .nilFunc] ∧ v = .slice none 0 0
  | some (c, ls) => (proto = 1 ∨ proto = 3) ∧ ls.length ≤ 20 ∧ Blk w g 51 #[.int .i64 proto, .string (strB c), v, .slice none 0 0, .pointer none, moreF proto g] ∧ Row w 9 anyB v (strs ls)
theorem Blk.cells6 {w : World} {g : Nat} {t : TypeId} {a b c d e f : Value} (h : Blk w g t #[a, b, c, d, e, f]) :
    (w.cell? ⟨g, 0, none⟩ = some a ∧ w.cell? ⟨g, 1, none⟩ = some b ∧ w.cell? ⟨g, 2, none⟩ = some c ∧ w.cell? ⟨g, 3, none⟩ = some d ∧ w.cell? ⟨g, 4, none⟩ = some e ∧ w.cell? ⟨g, 5, none⟩ = some f) ∧
    (w.frozen? ⟨g, 0, none⟩ = false ∧ w.frozen? ⟨g, 1, none⟩ = false ∧ w.frozen? ⟨g, 2, none⟩ = false ∧ w.frozen? ⟨g, 3, none⟩ = false ∧ w.frozen? ⟨g, 4, none⟩ = false ∧ w.frozen? ⟨g, 5, none⟩ = false) :=
  ⟨⟨by rw [h.cell]; rfl, by rw [h.cell]; rfl, by rw [h.cell]; rfl, by rw [h.cell]; rfl, by rw [h.cell]; rfl, by rw [h.cell]; rfl⟩, h.frozen 0, h.frozen 1, h.frozen 2, h.frozen 3, h.frozen 4, h.frozen 5⟩
theorem results_cell_tmp3 {fn : Func} {p u x : Tmp} {ty : TypeId} (h : fn.results = #[.cell p ty, .tmp u, .tmp x]) (tmps : Array Value) (P : Program) (w : World) :
    (results fn tmps).run P w =
      ((asAddr (tmps.getD p undef)).run P w).andThen fun a w₁ => ((loadVar ty a).run P w₁).andThen fun v w₂ => .ok (.tuple #[v, tmps.getD u undef, tmps.getD x undef]) w₂ := by
  simp only [results, h]
  simp [Sem.run_bind, Result.andThen]
theorem results_cell_row3 {P : Program} {fn : Func} {p u x : Tmp} {ty : TypeId} (h : fn.results = #[.cell p ty, .tmp u, .tmp x]) (tmps : Array Value) (w : World) (g : Nat) (t : TypeId) (cs : Array Value) (fr : Nat × Nat) (d : TypeDesc) (y z : Value)
    (hp : tmps.getD p undef = .pointer (some ⟨g, 0, none⟩)) (hy : tmps.getD u undef = y) (hz : tmps.getD x undef = z) (hg : w.heap[g]? = some (.cells cs t fr))
    (hu : P.underlying ty = some d) (hd : (match d with | .struct _ | .array _ _ => true | _ => false) = true) (hi : (P.info? ty).map (·.size) = some cs.size) :
    (results fn tmps).run P w = .ok (.tuple #[.agg cs, y, z]) w := by
  rw [results_cell_tmp3 h, hp, hy, hz]
  simp [asAddr, run_loadVar_row w g t ty cs fr d hg hu hd hi, Result.andThen]
set_option maxRecDepth 100000 in
theorem new_calls (w : World) (proto : Int) :
    Calls Tryd.prog 10 #[.int .i64 proto] w fun en w' => en = .returned (.pointer (some ⟨w.heap.size, 0, none⟩)) ∧ w' = w.alloc (.cells #[.int .i64 proto, .string ByteArray.empty, .slice none 0 0, .slice none 0 0, .pointer none, .nilFunc] 51) := by
  go_enter Tryd.func10, Tryd.ntmps10
  go_wp2_with fail
  go_ret
  exact ⟨rfl, rfl⟩
theorem neq_nil (w : World) : (binOp .neq 44 .nilFunc .nilFunc).run Tryd.prog w = .ok (.bool false) w := by kernel_rfl
theorem neq_func (w : World) (f : Fn) (xs ys : Array Value) : (binOp .neq 44 (.func f xs ys) .nilFunc).run Tryd.prog w = .ok (.bool true) w := by kernel_rfl
theorem eql_nil (w : World) : (binOp .eql 44 .nilFunc .nilFunc).run Tryd.prog w = .ok (.bool true) w := by kernel_rfl
theorem eql_func (w : World) (f : Fn) (xs ys : Array Value) : (binOp .eql 44 (.func f xs ys) .nilFunc).run Tryd.prog w = .ok (.bool false) w := by kernel_rfl
set_option maxRecDepth 100000 in
theorem busy_calls (w : World) (g : Nat) (proto : Int) (st : Option Rp) (v : Value) (h : MkSt w g proto st v) :
    Calls Tryd.prog 15 #[.pointer (some ⟨g, 0, none⟩)] w fun en w' => en = .returned (.bool st.isSome) ∧ w' = w := by
  cases st with
  | none =>
    obtain ⟨⟨c0, c1, c2, c3, c4, c5⟩, _⟩ := h.1.cells6
    have n1 := neq_nil
    have n2 := neq_func
    go_enter Tryd.func15, Tryd.ntmps15
    go_wp2_with fail
    go_ret
    exact ⟨rfl, rfl⟩
  | some q =>
    obtain ⟨c, ls⟩ := q
    obtain ⟨hp, hl, hb, hr⟩ := h
    obtain ⟨⟨c0, c1, c2, c3, c4, c5⟩, _⟩ := hb.cells6
    unfold moreF strictF looseF at c5
    have e : ∃ f, (if proto = 1 then Value.func (.func 24) #[.pointer (some ⟨g, 0, none⟩)] #[] else Value.func (.func 25) #[.pointer (some ⟨g, 0, none⟩)] #[]) = Value.func (.func f) #[.pointer (some ⟨g, 0, none⟩)] #[] := by
      split
      · exact ⟨_, rfl⟩
      · exact ⟨_, rfl⟩
    obtain ⟨f, hf⟩ := e
    rw [hf] at c5
    clear hf hp hl hb hr
    have n1 := neq_nil
    have n2 := neq_func
    go_enter Tryd.func15, Tryd.ntmps15
    go_wp2_with fail
    go_ret
    exact ⟨rfl, rfl⟩

/-! ### A line's text more -/
set_option maxRecDepth 100000 in
theorem add_full (w : World) (g : Nat) (a b v d e f : Value) (ls : List (List UInt8)) (s : ByteArray) (hb : Blk w g 51 #[a, b, v, d, e, f]) (hr : Row w 9 anyB v (strs ls)) (hl : 20 ≤ ls.length) (hl2 : ls.length ≤ 20) :
    Calls Tryd.prog 32 #[.pointer (some ⟨g, 0, none⟩), .string s] w fun en w' => en = .returned (.int .i64 72) ∧ w' = w := by
  obtain ⟨⟨c0, c1, c2, c3, c4, c5⟩, _⟩ := hb.cells6
  obtain ⟨A, n, rfl, _⟩ := hr.readsN (n := ls.length) (strs_length ls)
  have hl' : (20 : Int) ≤ (ls.length : Int) := by omega
  clear hb hr c0 c1 c3 c4 c5
  go_enter Tryd.func32, Tryd.ntmps32
  go_wp2_with fail
  go_ret
  exact ⟨rfl, rfl⟩
set_option maxHeartbeats 1000000 in
set_option maxRecDepth 100000 in
theorem add_ok (w : World) (g : Nat) (a b v d e f : Value) (ls : List (List UInt8)) (s : List UInt8) (hb : Blk w g 51 #[a, b, v, d, e, f]) (hr : Row w 9 anyB v (strs ls)) (hl : ls.length < 20) :
    Calls Tryd.prog 32 #[.pointer (some ⟨g, 0, none⟩), .string (strB s)] w fun en w' => en = .returned (.int .i64 0) ∧ ∃ v', Blk w' g 51 #[a, b, v', d, e, f] ∧ Row w' 9 anyB v' (strs (ls ++ [s])) ∧ Kept w w' (fun k => k = g ∨ OB v k) ∧ ∀ k, OB v' k → OB v k ∨ w.heap.size ≤ k := by
  obtain ⟨⟨c0, c1, c2, c3, c4, c5⟩, _⟩ := hb.cells6
  obtain ⟨A, n, hv, _, _⟩ := hr.readsN (n := ls.length) (strs_length ls)
  have hl' : ¬ (20 : Int) ≤ (ls.length : Int) := by omega
  have hne : ¬ OB v g := fun h => hr.ne_blk hb (by decide) h
  have HNE := Lib.hid hne
  have HR := Lib.hid hr
  have HB := Lib.hid hb
  subst hv
  clear hb hr c0 c1 c3 c4 c5 hne
  go_enter Tryd.func32, Tryd.ntmps32
  go_wp2_with (at_builtin; refine wpList_app1 (W := w) rfl _ _ 22 9 (.string ByteArray.empty) 16 rfl Tryd.underlying22 info_str rfl (by decide) anyB (.slice A ls.length n) (strs ls) (.string (strB s)) rfl rfl rfl HR.out (fun _ _ => trivial) (by rw [strs_length]; omega) ?_)
  intro v1 w1 hown hkp hob
  have hb1 := HB.out.kept hkp HNE.out
  obtain ⟨⟨d0, d1, d2, d3, d4, d5⟩, e0, e1, e2, e3, e4, e5⟩ := hb1.cells6
  have HOWN := Lib.hid hown
  have HKP := Lib.hid hkp
  have HOB := Lib.hid hob
  have HB1 := Lib.hid hb1
  obtain ⟨A1, n1, c1, hv1⟩ := hown.slice
  have hne1 : v1.ownBlock ≠ some g := fun h => hown.ne_blk hb1 (by decide) h
  have HNE1 := Lib.hid hne1
  subst hv1
  clear hown hkp hob hb1 hne1 d0 d1 d3 d4 d5 e0 e1 e3 e4 e5 c2
  go_wp2_with fail
  go_ret
  refine ⟨rfl, _, HB1.out.set_ 2 _, ?_, (HKP.out.mono fun _ h => .inr h).setCell (p := ⟨g, 2, none⟩) (.inl (.inl rfl)) _, HOB.out⟩
  rw [strs_append]
  exact HOWN.out.far (p := ⟨g, 2, none⟩) HNE1.out _
theorem add_any (w : World) (g : Nat) (a b v d e f : Value) (ls : List (List UInt8)) (s : List UInt8) (n : Int) (r : List (List UInt8)) (hn : (if 20 ≤ ls.length then 72 else 0) = n) (hrr : (if 20 ≤ ls.length then ls else ls ++ [s]) = r) (hb : Blk w g 51 #[a, b, v, d, e, f]) (hr : Row w 9 anyB v (strs ls)) (hl2 : ls.length ≤ 20) :
    Calls Tryd.prog 32 #[.pointer (some ⟨g, 0, none⟩), .string (strB s)] w fun en w' => en = .returned (.int .i64 n) ∧ ∃ v', Blk w' g 51 #[a, b, v', d, e, f] ∧ Row w' 9 anyB v' (strs r) ∧ Kept w w' (fun k => k = g ∨ OB v k) ∧ ∀ k, OB v' k → OB v k ∨ w.heap.size ≤ k := by
  subst hn hrr
  by_cases h : 20 ≤ ls.length
  · rw [if_pos h, if_pos h]
    refine (add_full w g a b v d e f ls (strB s) hb hr h hl2).mono ?_
    rintro en w' ⟨rfl, rfl⟩
    exact ⟨rfl, v, hb, hr, Kept.refl _ _, fun k hk => .inl hk⟩
  · rw [if_neg h, if_neg h]
    exact add_ok w g a b v d e f ls s hb hr (by omega)
end Go.Proofs.YtamemddgajmimaaDoor
