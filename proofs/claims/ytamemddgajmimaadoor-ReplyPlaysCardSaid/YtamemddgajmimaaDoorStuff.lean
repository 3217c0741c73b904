/- Bodies, of the program and of the reference: New, Line, Bytes. -/
import Derived.Test.YtamemddgajmimaaDoorRepX
import Derived.Test.YtamemddgajmimaaDoorShP
import Derived.Lib.AppendStr
set_option linter.unusedVariables false
set_option linter.unusedSimpArgs false
namespace Go.Proofs.YtamemddgajmimaaDoor
open Go.RowKit Go.Shelf

theorem info_u8 : (Tryd.prog.info? 5).map (fun i => (i.zero, i.size, i.bytes)) = some (some (.int .u8 0), 1, 1) := by kernel_rfl
theorem strCells_b8s (l : List UInt8) : Lib.strCells (strB l) = b8s l := by simp [Lib.strCells, strB, b8s, B8]
section
variable {ops : Array Oper} {rest : List Oper} {o : Oper} {a : Act} {Q : Exit → Act → World → Prop}
theorem run_append_string_at (W : World) (ty : TypeId) (S : Nat → Prop) (v : Value) (l m : List UInt8) (HO : Row W 5 S v (b8s l)) (hl : l.length + m.length ≤ 140737488355328) :
    ∃ v' w', (Builtin.append_ #[28, 9] ty #[v, .string (strB m)]).run Tryd.prog W = .ok v' w' ∧ w'.ownsRow 0 5 1 v' (l ++ m).length (b8s (l ++ m)) ∧ W.grownBy w' v.ownBlock ∧ ∀ k, OB v' k → OB v k ∨ W.heap.size ≤ k := by
  obtain ⟨i0, hi, hz0, hz1, hz2⟩ := info_parts info_u8
  have ht := Tryd.underlying28
  have hu := Tryd.underlying9
  have hsz := strB_size m
  have hown := HO.1
  rw [b8s_length] at hown
  obtain ⟨v', w', h1, h2, h3, _⟩ := Lib.run_append_own_string (P := Tryd.prog) W 0 28 9 ty 5 i0 ht hu hi hz0 hz1 hz2 v l.length (b8s l) hown (strB m) (by unfold maxLen; omega) (by omega) (Nat.zero_le _)
  refine ⟨v', w', h1, ?_, h3, ?_⟩
  · rw [strCells_b8s, hsz] at h2
    rw [List.length_append, b8s_append]
    exact h2
  · rcases hown.2 with ⟨rfl, h0⟩ | ⟨g, cap, cur, rfl, hbg, hg, hnc, hcm, hcs, htake⟩
    · obtain ⟨v2, w2, k1, k2, _⟩ := Lib.run_append_own_string (P := Tryd.prog) W W.heap.size 28 9 ty 5 i0 ht hu hi hz0 hz1 hz2 (.slice none 0 0) 0 [] (World.ownsRow_nil _ _ _ _) (strB m) (by unfold maxLen; omega) (by omega) (Nat.le_refl _)
      rw [h1] at k1
      injection k1 with e1 e2
      subst e1 e2
      exact fun k hk => .inr (k2.lt k hk).1
    · by_cases hroom : l.length + (strB m).size ≤ cap
      · have hr := Lib.run_append_room_string (P := Tryd.prog) W 28 9 ty 5 i0 ht hu hi hz1 g l.length cap cur hg (strB m) hroom (by omega)
        rw [h1] at hr
        injection hr with e1 e2
        subst e1
        intro k hk
        exact .inl (by simpa [OB, Value.ownBlock] using hk)
      · have holds := hown.cells (g := g) rfl
        have hr := Lib.run_append_grow_string (P := Tryd.prog) W 28 9 ty 5 i0 (.int .u8 0) ht hu hi hz0 ⟨g, 0, none⟩ l.length cap (b8s l) (by rw [hz1, b8s_length, Nat.mul_one]) holds (strB m) (by omega) (by omega) (by rw [hz2]; exact growslice_fits (by omega) (by omega))
        rw [h1] at hr
        injection hr with e1 e2
        subst e1
        intro k hk
        refine .inr ?_
        have : W.heap.size = k := by simpa [OB, Value.ownBlock] using hk
        omega
/-- append(v, s...), of a text. -/
theorem wpList_appS {W : World} (hgd : o.guard = none) (s x : Operand)
    (ho : o.op = .call { callee := .builtin .append, args := #[s, x], argTypes := #[28, 9] })
    (S : Nat → Prop) (v : Value) (l m : List UInt8) (hs : a.eval s = v) (hx : a.eval x = .string (strB m)) (HO : Row W 5 S v (b8s l)) (hS : ∀ k, W.heap.size ≤ k → S k) (hl : l.length + m.length ≤ 140737488355328)
    (h : ∀ v1 w1, Row w1 5 S v1 (b8s (l ++ m)) → Kept W w1 (OB v) → (∀ k, OB v1 k → OB v k ∨ W.heap.size ≤ k) → wpList Tryd.prog ops Q rest (a.put o.dst v1) w1) :
    wpList Tryd.prog ops Q (o :: rest) a W := by
  obtain ⟨v1, w1, hr, hown, hg, hat⟩ := run_append_string_at W o.type S v l m HO hl
  refine wpList_plain hgd fun K hK => ?_
  unfold Oper.wp execOp
  simp only [ho, resolve, invoke, builtin, Sem.run_bind, Sem.run_pure, Result.andThen_ok, List.map_toArray, List.map_cons, List.map_nil, hs, hx, hr]
  refine hK _ _ (h v1 w1 ⟨by rw [b8s_length]; exact hown, fun k hk => ?_⟩ ?_ hat)
  · exact (hat k hk).elim (HO.2 k) (hS k)
  · exact (Kept.refl W (OB v)).grown hg fun k hk => .inl hk
end
/-! ### Plain -/
def dropDot (s : List UInt8) : List UInt8 := if Lib.hasPrefix s [46] then s.drop 1 else s
theorem dropDot_len (s : List UInt8) : (dropDot s).length ≤ s.length := by
  unfold dropDot
  split
  · rw [List.length_drop]; omega
  · omega
def bodyL (most : Nat) (l s : List UInt8) : Bool × Int × List UInt8 :=
  if s = [46] then (true, 0, l) else if most < l.length + (dropDot s ++ [13, 10]).length then (false, 72, l) else (false, 0, l ++ (dropDot s ++ [13, 10]))
/-! ### In memory -/
def BdR (w : World) (T : TypeId) (q most : Nat) (l : List UInt8) (n : Nat) (v : Value) : Prop :=
  Blk w q T #[v, .int .i64 ((n : Nat) : Int), .int .i64 ((most : Nat) : Int)] ∧ Row w 5 anyB v (b8s l)
theorem BdR.kept {w w' : World} {S : Nat → Prop} {T : TypeId} {q most : Nat} {l : List UInt8} {n : Nat} {v : Value} (h : BdR w T q most l n v) (k : Kept w w' S) (hq : ¬ S q) (hv : ∀ b, OB v b → ¬ S b) : BdR w' T q most l n v := ⟨h.1.kept k hq, h.2.kept_ k hv⟩
theorem BdR.kept0 {w w' : World} {T : TypeId} {q most : Nat} {l : List UInt8} {n : Nat} {v : Value} (h : BdR w T q most l n v) (k : Kept w w' NoB) : BdR w' T q most l n v := h.kept k (fun x => x) fun _ _ x => x
def LnPost (w : World) (T : TypeId) (q most : Nat) (l : List UInt8) (n : Nat) (v : Value) (r : Bool × Int × List UInt8) (en : Ending) (w' : World) : Prop :=
  en = .returned (.tuple #[.bool r.1, .int .i64 r.2.1]) ∧ ∃ v' n', n' ≤ n + 1 ∧ BdR w' T q most r.2.2 n' v' ∧ Kept w w' (fun k => k = q ∨ OB v k) ∧ ∀ k, OB v' k → OB v k ∨ w.heap.size ≤ k
set_option maxHeartbeats 2000000 in
set_option maxRecDepth 100000 in
theorem stuffNew_calls (w : World) (most : Nat) :
    Calls Tryd.prog 26 #[.int .i64 (most : Int)] w fun en w' => en = .returned (.pointer (some ⟨w.heap.size, 0, none⟩)) ∧ w' = w.alloc (.cells #[.slice none 0 0, .int .i64 0, .int .i64 (most : Int)] 68) := by
  have hmx : max (most : Int) 0 = (most : Int) := by omega
  go_enter Tryd.func26, Tryd.ntmps26
  go_wp2_with fail
  go_ret
  exact ⟨rfl, rfl⟩
set_option maxHeartbeats 2000000 in
set_option maxRecDepth 100000 in
theorem refNew_calls (w : World) (most : Nat) :
    Calls Tryd.prog 18 #[.int .i64 (most : Int)] w fun en w' => en = .returned (.pointer (some ⟨w.heap.size, 0, none⟩)) ∧ w' = w.alloc (.cells #[.slice none 0 0, .int .i64 0, .int .i64 (most : Int)] 59) := by
  have hmx : max (most : Int) 0 = (most : Int) := by omega
  go_enter Tryd.func18, Tryd.ntmps18
  go_wp2_with fail
  go_ret
  exact ⟨rfl, rfl⟩
theorem strB_beq (x y : List UInt8) : (strB x == strB y) = decide (x = y) := by
  by_cases h : x = y
  · subst h
    rw [decide_eq_true rfl]
    exact (Go.MapKept.bytes_beq _ _).2 rfl
  · rw [decide_eq_false h]
    cases hh : (strB x == strB y) with
    | false => rfl
    | true => exact absurd (strB_inj ((Go.MapKept.bytes_beq _ _).1 hh)) h
theorem trim_calls (w : World) (s : List UInt8) :
    Calls Tryd.prog 37 #[.string (strB s), .string ⟨#[46]⟩] w fun e w' => e = .returned (.string (strB (dropDot s))) ∧ w' = w := by
  have h := Any.strings_TrimPrefix shLays101 (strB s) ⟨#[46]⟩ w
  rw [strB_toList] at h
  exact h
set_option maxHeartbeats 4000000 in
set_option maxRecDepth 100000 in
theorem stuffLine_calls (w : World) (q most : Nat) (l s : List UInt8) (n : Nat) (v : Value) (r : Bool × Int × List UInt8) (hr : bodyL most l s = r) (h : BdR w 68 q most l n v) (hm : most ≤ 1099511627776) (hl : l.length ≤ most) (hs : s.length ≤ 1099511627776) (hn : n ≤ 1099511627776) :
    Calls Tryd.prog 33 #[.pointer (some ⟨q, 0, none⟩), .string (strB s)] w (LnPost w 68 q most l n v r) := by
  subst hr
  obtain ⟨hb, hrow⟩ := h
  have hsz := strB_size s
  by_cases h46 : s = [46]
  · have t1 : (s == [46]) = true := by rw [beq_iff_eq]; exact h46
    have t2 : (strB s == (⟨#[46]⟩ : ByteArray)) = true := by rw [show (⟨#[46]⟩ : ByteArray) = strB [46] from rfl, strB_beq]; exact decide_eq_true h46
    have hr : bodyL most l s = (true, 0, l) := by unfold bodyL; rw [if_pos h46]
    rw [hr]
    have HB := Lib.hid hb
    have HR := Lib.hid hrow
    clear hb hrow h46 hr
    go_enter Tryd.func33, Tryd.ntmps33
    go_wp2_with fail
    go_ret2
    exact ⟨rfl, v, n, by omega, ⟨HB.out, HR.out⟩, Kept.refl _ _, fun k hk => .inl hk⟩
  · have t1 : (s == [46]) = false := by rw [beq_eq_false_iff_ne]; exact h46
    have t2 : (strB s == (⟨#[46]⟩ : ByteArray)) = false := by rw [show (⟨#[46]⟩ : ByteArray) = strB [46] from rfl, strB_beq]; exact decide_eq_false h46
    have hd := dropDot_len s
    have hbl : bodyL most l s = if most < l.length + (dropDot s ++ [13, 10]).length then (false, 72, l) else (false, 0, l ++ (dropDot s ++ [13, 10])) := by unfold bodyL; rw [if_neg h46]
    obtain ⟨x, hx⟩ : ∃ x, dropDot s = x := ⟨_, rfl⟩
    rw [hx] at hd hbl
    have HX := Lib.hid hx
    have hszx := strB_size x
    have e1 : strB x ++ (⟨#[13, 10]⟩ : ByteArray) = strB (x ++ [13, 10]) := strB_app x [13, 10]
    have hxl : (x ++ [13, 10]).length = x.length + 2 := by simp
    have hszy := strB_size (x ++ [13, 10])
    obtain ⟨y, hy⟩ : ∃ y, x ++ [13, 10] = y := ⟨_, rfl⟩
    rw [hy] at e1 hxl hbl hszy
    have z1 : ¬ (9223372036854775807 < x.length + 2) := by omega
    have HB := Lib.hid hb
    have HR := Lib.hid hrow
    obtain ⟨c0, c1, c2, f0, f1, f2⟩ := hb.cells3
    obtain ⟨A, c, rfl, _⟩ := hrow.readsN (n := l.length) (b8s_length l)
    have hne : ¬ OB (.slice A l.length c) q := fun h => hrow.ne_blk hb (by decide) h
    have HNE := Lib.hid hne
    clear hb hrow hx hy h46 hne
    by_cases hfull : most < l.length + y.length
    · rw [if_pos hfull] at hbl
      rw [hbl]
      have t3 : (most : Int) - (l.length : Int) < (y.length : Int) := by omega
      clear hbl hfull
      go_enter Tryd.func33, Tryd.ntmps33
      go_wp2_with fail
      refine (trim_calls w s).mono ?_
      rw [HX.out]
      rintro en _ ⟨rfl, rfl⟩
      go_wp2_with fail
      go_quiet (fail)
      go_wp2_with fail
      go_ret2
      exact ⟨rfl, _, n, by omega, ⟨HB.out, HR.out⟩, (Kept.refl _ _).drewN _, fun k hk => .inl hk⟩
    · rw [if_neg hfull] at hbl
      rw [hbl]
      have t3 : ¬ (most : Int) - (l.length : Int) < (y.length : Int) := by omega
      clear hbl
      go_enter Tryd.func33, Tryd.ntmps33
      go_wp2_with fail
      refine (trim_calls w s).mono ?_
      rw [HX.out]
      rintro en w' ⟨rfl, rfl⟩
      go_wp2_with fail
      go_quiet (fail)
      have HRD := Lib.hid (HR.out.drewN nq)
      go_wp2_with (at_builtin; refine wpList_appS (W := w'.drewN nq) rfl _ _ rfl anyB (.slice A l.length c) l y rfl rfl HRD.out (fun _ _ => trivial) (by omega) ?_)
      intro v1 w1 hown hkp hob
      have hkp' : Kept w' w1 (OB (.slice A l.length c)) := ((Kept.refl w' _).drewN nq).trans hkp fun b hb => .inl hb
      have hb1 := HB.out.kept hkp' HNE.out
      obtain ⟨d0, d1, d2, e0, e1', e2⟩ := hb1.cells3
      have HOWN := Lib.hid hown
      have HKP := Lib.hid hkp'
      have HOB : Hid (∀ k, OB v1 k → OB (.slice A l.length c) k ∨ w'.heap.size ≤ k) := hob
      have HB1 := Lib.hid hb1
      obtain ⟨A1, n1, c1x, hv1⟩ := hown.slice
      have hne1 : v1.ownBlock ≠ some q := fun h => hown.ne_blk hb1 (by decide) h
      have HNE1 := Lib.hid hne1
      subst hv1
      clear hown hkp hkp' hob hb1 hne1 c0 c1 c2 f0 f1 f2 hfull
      go_wp2_with fail
      go_ret2
      refine ⟨rfl, _, n + 1, by omega, ⟨?_, (HOWN.out.far (p := ⟨q, 0, none⟩) HNE1.out _).far (p := ⟨q, 1, none⟩) HNE1.out _⟩, ((HKP.out.mono fun _ h => .inr h).setCell (p := ⟨q, 0, none⟩) (.inl (.inl rfl)) _).setCell (p := ⟨q, 1, none⟩) (.inl (.inl rfl)) _, HOB.out⟩
      exact (HB1.out.set_ 0 (.slice A1 n1 c1x)).set_ 1 (.int .i64 ((n + 1 : Nat) : Int))
end Go.Proofs.YtamemddgajmimaaDoor
