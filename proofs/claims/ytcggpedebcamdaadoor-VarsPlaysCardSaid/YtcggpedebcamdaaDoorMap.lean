/- Maps keyed by strings: what a block holds, a look, a store. Plain theorems over any program. -/
import Derived.MapKept
import Derived.Maps.OwnOps
import Derived.Test.YtcggpedebcamdaaDoorW
set_option linter.unusedVariables false
set_option linter.unusedSimpArgs false
namespace Go.Proofs.YtcggpedebcamdaaDoor
open Go.RowKit Go.MapKept

/-- A block that is a map: its keys, strings, and what they stand for, in the order in which they were born. -/
def SMap (w : World) (r : Nat) (l : List (List UInt8 × Value)) : Prop :=
  ∃ es clock, w.heap[r]? = some (.map es clock) ∧ es.toList.map (fun e => (e.key, e.val)) = l.map fun p => (Value.string (strB p.1), p.2)
def findS : List (List UInt8 × Value) → List UInt8 → Option Value
  | [], _ => none
  | p :: l, k => if p.1 = k then some p.2 else findS l k
def putS : List (List UInt8 × Value) → List UInt8 → Value → List (List UInt8 × Value)
  | [], k, v => [(k, v)]
  | p :: l, k, v => if p.1 = k then (k, v) :: l else p :: putS l k v
theorem findNow_S (k : List UInt8) : ∀ (es : List MapEntry) (l : List (List UInt8 × Value)) (i : Nat), es.map (fun e => (e.key, e.val)) = l.map (fun p => (Value.string (strB p.1), p.2)) →
    (Instr.findNow .string (.string (strB k)) es i = some none ∧ findS l k = none ∧ putS l k = fun v => l ++ [(k, v)]) ∨
    ∃ j v q, Instr.findNow .string (.string (strB k)) es i = some (some (i + j, v)) ∧ findS l k = some v ∧ l[j]? = some (k, v) ∧ es[j]? = some q ∧ q.key = .string (strB k) ∧ putS l k = fun v => l.set j (k, v)
  | [], [], i, _ => .inl ⟨rfl, rfl, rfl⟩
  | e :: es, p :: l, i, h => by
    simp only [List.map_cons, List.cons.injEq, Prod.mk.injEq] at h
    obtain ⟨⟨hk, hv⟩, ht⟩ := h
    by_cases e1 : p.1 = k
    · refine .inr ⟨0, e.val, e, ?_, ?_, ?_, rfl, by rw [hk, e1], ?_⟩
      · have hb : (strB k == strB p.1) = true := (bytes_beq _ _).2 (by rw [e1])
        simp [Instr.findNow, Instr.sameNow, hk, hb]
      · simp [findS, e1, hv]
      · simp [hv, ← e1]
      · funext v; simp [putS, e1]
    · have hb : (strB k == strB p.1) = false := by
        cases hh : (strB k == strB p.1) with
        | false => rfl
        | true => exact absurd (strB_inj ((bytes_beq _ _).1 hh)).symm e1
      rcases findNow_S k es l (i + 1) ht with ⟨h1, h2, h3⟩ | ⟨j, v, q, h1, h2, h3, h4, h5, h6⟩
      · refine .inl ⟨by simp [Instr.findNow, Instr.sameNow, hk, hb, h1], by simp [findS, e1, h2], ?_⟩
        funext v; simp [putS, e1, h3]
      · refine .inr ⟨j + 1, v, q, by simp [Instr.findNow, Instr.sameNow, hk, hb, h1]; omega, by simp [findS, e1, h2], by simpa using h3, by simpa using h4, h5, ?_⟩
        funext v; simp [putS, e1, h6]
  | [], p :: l, i, h => by simp at h
  | e :: es, [], i, h => by simp at h

section
variable {P : Program} {w w' : World} {r : Nat} {l : List (List UInt8 × Value)} {t kt et : TypeId}
theorem SMap.lt (h : SMap w r l) : r < w.heap.size := by
  obtain ⟨es, c, hb, _⟩ := h
  exact (Array.getElem?_eq_some_iff.1 hb).1
theorem SMap.kept {S : Nat → Prop} (h : SMap w r l) (k : Kept w w' S) (hn : ¬ S r) : SMap w' r l := by
  obtain ⟨es, c, hb, hl⟩ := h
  exact ⟨es, c, k.heap hb hn, hl⟩
theorem SMap.kept0 (h : SMap w r l) (k : Kept w w' NoB) : SMap w' r l := h.kept k fun x => x
theorem SMap.alloc (h : SMap w r l) (o : Obj) : SMap (w.alloc o) r l := h.kept0 ((Kept.refl w NoB).alloc o)
theorem SMap.drew (h : SMap w r l) : SMap w.drew r l := h
theorem SMap.drewN (h : SMap w r l) (n : Nat) : SMap (w.drewN n) r l := h
theorem SMap.new (w : World) : SMap (w.alloc (.map #[] 0)) w.heap.size [] := ⟨#[], 0, heap_alloc_new w _, rfl⟩
theorem SMap.ne_blk {g : Nat} {ty : TypeId} {cs : Array Value} (h : SMap w r l) (hb : Blk w g ty cs) : r ≠ g := by
  rintro rfl
  obtain ⟨es, c, h1, _⟩ := h
  unfold Blk at hb
  rw [h1] at hb
  cases hb
theorem SMap.look (h : SMap w r l) (ht : P.underlying t = some (.map kt et)) (hk : P.underlying kt = some .string) {z : Value} (hz : (zeroValue et).run P w = .ok z w) (k : List UInt8) (ok : Bool) :
    (Instr.lookup t (.map (some r)) (.string (strB k)) ok).run P w = .ok (if ok then .tuple #[(findS l k).getD z, .bool (findS l k).isSome] else (findS l k).getD z) w := by
  obtain ⟨es, c, hb, hl⟩ := h
  have hik : IsKey .string (.string (strB k)) := by simp [IsKey]
  rcases findNow_S k es.toList l 0 hl with ⟨h1, h2, _⟩ | ⟨j, v, q, h1, h2, _⟩
  · simp [Instr.lookup, run_underlying ht, MapKept.run_getObj_map hb, run_checkKey hk hik, run_findKey hk h1, hz, h2, Result.andThen]
  · simp [Instr.lookup, run_underlying ht, MapKept.run_getObj_map hb, run_checkKey hk hik, run_findKey hk h1, h2, Result.andThen]
theorem SMap.put (h : SMap w r l) (ht : P.underlying t = some (.map kt et)) (hk : P.underlying kt = some .string) (k : List UInt8) (v : Value) :
    ∃ w', (Instr.mapUpdate t (.map (some r)) (.string (strB k)) v).run P w = .ok () w' ∧ SMap w' r (putS l k v) ∧ Kept w w' (fun b => b = r) ∧ w'.heap.size = w.heap.size := by
  obtain ⟨es, c, hb, hl⟩ := h
  have hik : IsKey .string (.string (strB k)) := by simp [IsKey]
  have hkeep : ∀ o : Obj, Kept w { w with heap := w.heap.setIfInBounds r o } (fun b => b = r) := fun o =>
    ⟨rfl, rfl, rfl, by simp, fun i hi hn => by simp [Array.getElem?_setIfInBounds_ne (Ne.symm hn)]⟩
  rcases findNow_S k es.toList l 0 hl with ⟨h1, h2, h3⟩ | ⟨j, v0, q, h1, h2, h3, h4, h5, h6⟩
  · refine ⟨_, by simp [Instr.mapUpdate, run_underlying ht, MapKept.run_getObj_map hb, run_checkKey hk hik, run_findKey hk h1, run_setObj_map _ hb, Result.andThen]; rfl, ⟨_, _, (heap_set hb).1, ?_⟩, hkeep _, by simp⟩
    rw [h3]
    simp [hl]
  · have hj : es[j]? = some q := by simpa using h4
    refine ⟨_, by simp [Instr.mapUpdate, run_underlying ht, MapKept.run_getObj_map hb, run_checkKey hk hik, run_findKey hk h1, hj, h5, run_keyThatStays hik, run_setObj_map _ hb, Result.andThen]; rfl, ⟨_, _, (heap_set hb).1, ?_⟩, hkeep _, by simp⟩
    rw [h6, List.map_set, ← hl, ← List.map_set (l := es.toList) (a := { q with key := .string (strB k), val := v }) (f := fun e : MapEntry => (e.key, e.val))]
    congr 1
    rw [Array.toList_modify]
    apply List.ext_getElem?
    intro m
    rw [List.getElem?_modify, List.getElem?_set]
    by_cases e : j = m
    · subst e
      have hlt : j < es.toList.length := by
        have := (Array.getElem?_eq_some_iff.1 hj).1
        simpa using this
      rw [if_pos rfl, h4]
      have hlt' : j < es.size := by simpa using hlt
      simp [hlt']
    · simp [e]
theorem SMap.len (h : SMap w r l) (ht : P.underlying t = some (.map kt et)) (ty : TypeId) : (Builtin.len_ #[t] ty #[.map (some r)]).run P w = .ok (.int .i64 (l.length : Int)) w := by
  obtain ⟨es, c, hb, hl⟩ := h
  have e : es.size = l.length := by
    have := congrArg List.length hl
    simpa using this
  simp [Builtin.len_, run_underlying ht, MapKept.run_getObj_map hb, Result.andThen, goInt, e]
end

section
variable {P : Program} {ops : Array Oper} {rest : List Oper} {o : Oper} {a : Act} {Q : Exit → Act → World → Prop}
/-- A map literal's entry. -/
theorem wpList_insertS (w : World) (hg : o.guard = none) (m x v : Operand) (t : TypeId) (hop : o.op = Op.insert t m x v) (kt et : TypeId) (ht : P.underlying t = some (.map kt et)) (hk : P.underlying kt = some .string)
    (r : Nat) (l : List (List UInt8 × Value)) (hm : a.eval m = .map (some r)) (h : SMap w r l) (k : List UInt8) (y : Value) (hx : a.eval x = .string (strB k)) (hv : a.eval v = y)
    (hK : ∀ w', SMap w' r (putS l k y) → Kept w w' (fun b => b = r) → wpList P ops Q rest (a.put o.dst undef) w') : wpList P ops Q (o :: rest) a w := by
  refine wpList_plain hg fun K' hK' => ?_
  obtain ⟨w', hrun, r1, r2, _⟩ := h.put ht hk k y
  unfold Oper.wp
  simp [execOp, hop, hm, hx, hv, hrun, Result.andThen]
  exact hK' _ _ (hK w' r1 r2)
/-- 'm[k] = v'. -/
theorem wpList_mapUpdateS (w : World) (hg : o.guard = none) (m x v : Operand) (t : TypeId) (hop : o.op = Op.mapUpdate t m x v) (kt et : TypeId) (ht : P.underlying t = some (.map kt et)) (hk : P.underlying kt = some .string)
    (r : Nat) (l : List (List UInt8 × Value)) (hm : a.eval m = .map (some r)) (h : SMap w r l) (k : List UInt8) (y : Value) (hx : a.eval x = .string (strB k)) (hv : a.eval v = y)
    (hK : ∀ w', SMap w' r (putS l k y) → Kept w w' (fun b => b = r) → wpList P ops Q rest (a.put o.dst undef) w') : wpList P ops Q (o :: rest) a w := by
  refine wpList_plain hg fun K' hK' => ?_
  obtain ⟨w', hrun, r1, r2, _⟩ := h.put ht hk k y
  unfold Oper.wp
  simp [execOp, hop, hm, hx, hv, hrun, Result.andThen]
  exact hK' _ _ (hK w' r1 r2)
end
end Go.Proofs.YtcggpedebcamdaaDoor
