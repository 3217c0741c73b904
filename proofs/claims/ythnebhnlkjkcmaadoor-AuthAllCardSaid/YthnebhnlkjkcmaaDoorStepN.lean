/- append of a row to a row of the call's own, in a region that draws its order. Plain theorems over any program. -/
import Derived.Test.YthnebhnlkjkcmaaDoorW
import Derived.Test.YthnebhnlkjkcmaaDoorRowSet
set_option linter.unusedVariables false
set_option linter.unusedSimpArgs false
namespace Go.Proofs.YthnebhnlkjkcmaaDoor
open Go.RowKit

theorem run_appN {P : Program} {W : World} (ty t e : TypeId) (z : Value) (bytes : Nat)
    (ht : P.underlying t = some (.slice e)) (hinfo : (P.info? e).map (fun i => (i.zero, i.size, i.bytes)) = some (some z, 1, bytes)) (hz : z.cells.size = 1) (hb0 : 0 < bytes)
    (S T : Nat → Prop) (v : Value) (xs ys : List Value) (A : Option Addr) (m c : Nat) (h1 : ∀ u ∈ ys, u.oneCell' = true)
    (HO : Row W e S v xs) (HR : Reads W T A m ys) (hS : ∀ k, W.heap.size ≤ k → S k) (hl : (xs.length + m) * bytes ≤ 140737488355328) :
    ∃ v1 w1, (Builtin.append_ #[t, t] ty #[v, .slice A m c]).run P W = .ok v1 w1 ∧ Row w1 e S v1 (xs ++ ys) ∧ Kept W w1 (OB v) ∧ ∀ k, OB v1 k → OB v k ∨ W.heap.size ≤ k := by
  obtain ⟨i0, hi, hzz⟩ := Option.map_eq_some_iff.1 hinfo
  simp only [Prod.mk.injEq] at hzz
  obtain ⟨hz0, hz1, hz2⟩ := hzz
  have hm : ys.length = m := HR.1
  have hlen : xs.length + m ≤ 140737488355328 := Nat.le_trans (Nat.le_mul_of_pos_right _ hb0) hl
  have hrun : ∃ v1 w1, (Builtin.append_ #[t, t] ty #[v, .slice A m c]).run P W = .ok v1 w1 ∧ w1.ownsRow 0 e 1 v1 (xs.length + m) (xs ++ ys) ∧ W.grownBy w1 v.ownBlock ∧ (v1.ownBlock = v.ownBlock ∨ v1.ownBlock = some W.heap.size) := by
    rcases A with _ | ad
    · have h0 : m = 0 := by
        rcases Nat.eq_zero_or_pos m with h0 | h0
        · exact h0
        · obtain ⟨ad, h, _⟩ := HR.2 h0
          cases h
      subst h0
      obtain rfl : ys = [] := List.eq_nil_of_length_eq_zero hm
      refine ⟨v, W, ?_, by simpa using HO.1, World.grownBy.refl W _, .inl rfl⟩
      rcases HO.1.2 with ⟨rfl, hn⟩ | ⟨g, cap, cur, rfl, _, _, hnc, _⟩
      · simp [Builtin.append_, run_underlying ht, sizeOf, typeInfo, hi, Builtin.lenOf, Builtin.firstCells]
      · simp [Builtin.append_, run_underlying ht, sizeOf, typeInfo, hi, Builtin.lenOf, Builtin.firstCells, hnc, storeCells]
    · have hcells : ∀ j u, ys[j]? = some u → W.cell? (ad.add j) = some u := by
        intro j u hu
        rcases Nat.eq_zero_or_pos m with h0 | h0
        · subst h0
          obtain rfl : ys = [] := List.eq_nil_of_length_eq_zero hm
          simp at hu
        · obtain ⟨ad', h', _, _, hc⟩ := HR.2 h0
          injection h' with h'
          subst h'
          exact hc j u hu
      obtain ⟨v1, w1, hr, h2, h3, _, h5⟩ := run_append_own_at (P := P) W 0 t ty e i0 z 1 bytes ht hi hz0 hz1 hz2 hz (by omega) v xs.length xs HO.1 ad m c ys (by omega) hcells h1 (by simp only [maxLen]; omega) hl (by omega)
      exact ⟨v1, w1, hr, h2, h3, h5⟩
  obtain ⟨v1, w1, hr, hown, hg, hat⟩ := hrun
  have hat' : ∀ k, OB v1 k → OB v k ∨ W.heap.size ≤ k := by
    intro k hk
    unfold OB at hk ⊢
    rcases hat with hat | hat
    · exact .inl (hat ▸ hk)
    · rw [hat] at hk
      injection hk with hk
      exact .inr (by omega)
  exact ⟨v1, w1, hr, ⟨by rw [List.length_append, hm]; exact hown, fun k hk => (hat' k hk).elim (HO.2 k) (hS k)⟩, (Kept.refl W (OB v)).grown hg fun k hk => .inl hk, hat'⟩
theorem step_appN {P : Program} {ops : Array Oper} {o : Oper} {a : Act} {K : Act → World → Prop} {Q : Exit → Act → World → Prop} {E : Prop} {W : World} (hw : Region.wanted o (yielded ops a.tmps) = true) (s x : Operand) (t e : TypeId) (z : Value) (bytes : Nat)
    (ho : o.op = .call { callee := .builtin .append, args := #[s, x], argTypes := #[t, t] })
    (ht : P.underlying t = some (.slice e)) (hinfo : (P.info? e).map (fun i => (i.zero, i.size, i.bytes)) = some (some z, 1, bytes)) (hz : z.cells.size = 1) (hb0 : 0 < bytes)
    (S T : Nat → Prop) (v : Value) (xs ys : List Value) (A : Option Addr) (m c : Nat) (hs : a.eval s = v) (hx : a.eval x = .slice A m c) (h1 : ∀ u ∈ ys, u.oneCell' = true)
    (HO : Row W e S v xs) (HR : Reads W T A m ys) (hS : ∀ k, W.heap.size ≤ k → S k) (hl : (xs.length + m) * bytes ≤ 140737488355328)
    (h : ∀ v1 w1, Row w1 e S v1 (xs ++ ys) → Kept W w1 (OB v) → (∀ k, OB v1 k → OB v k ∨ W.heap.size ≤ k) → K (a.put o.dst v1) w1) :
    if Region.wanted o (yielded ops a.tmps) = true then Oper.wp P o a W K Q else E := by
  rw [if_pos hw]
  obtain ⟨v1, w1, hr, h1', h2, h3⟩ := run_appN (P := P) (W := W) o.type t e z bytes ht hinfo hz hb0 S T v xs ys A m c h1 HO HR hS hl
  unfold Oper.wp execOp
  simp only [ho, resolve, invoke, builtin, Sem.run_bind, Sem.run_pure, Result.andThen_ok, List.map_toArray, List.map_cons, List.map_nil, hs, hx, hr]
  exact h v1 w1 h1' h2 h3
theorem Row.at_ {w : World} {e : TypeId} {S : Nat → Prop} {g n c : Nat} {xs : List Value} (h : Row w e S (.slice (some ⟨g, 0, none⟩) n c) xs) {j : Nat} {u : Value} (hu : xs[j]? = some u) :
    w.cell? ⟨g, j, none⟩ = some u ∧ w.frozen? ⟨g, j, none⟩ = false ∧ g < w.heap.size ∧ S g := by
  have h0 : 0 < xs.length := by
    rcases Nat.eq_zero_or_pos xs.length with h0 | h0
    · rw [List.eq_nil_of_length_eq_zero h0] at hu
      simp at hu
    · exact h0
  obtain ⟨g', c', cur, hv, hS, hb, _, _, hc⟩ := h.form h0
  injection hv with e1 e2 e3
  injection e1 with e1
  injection e1 with e1
  subst e1
  exact ⟨by rw [hb.cell]; exact hc j u hu, hb.frozen j, hb.lt, hS⟩
end Go.Proofs.YthnebhnlkjkcmaaDoor
