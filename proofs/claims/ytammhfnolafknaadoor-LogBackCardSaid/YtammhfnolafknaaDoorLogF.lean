/- Rows of entries of one's own; few. -/
import Derived.Test.YtammhfnolafknaaDoorLogE
set_option linter.unusedVariables false
set_option linter.unusedSimpArgs false
namespace Go.Proofs.YtammhfnolafknaaDoor
open Go.RowKit Go.Shelf Go.Lib Go.Sort

def cellsE (e : Ent) : List Value := [.int .i64 e.1, .int .i64 e.2.1, .string (strB e.2.2)]
def flatE (es : List Ent) : List Value := es.flatMap cellsE
theorem flatE_len : ∀ es : List Ent, (flatE es).length = es.length * 3
  | [] => rfl
  | e :: es => by
    have := flatE_len es
    unfold flatE at *
    rw [List.flatMap_cons, List.length_append, this, List.length_cons]
    simp [cellsE]
    omega
theorem flatE_app (a b : List Ent) : flatE (a ++ b) = flatE a ++ flatE b := by unfold flatE; rw [List.flatMap_append]
theorem flatE_get : ∀ (es : List Ent) (i : Nat) (h : i < es.length), (flatE es)[i * 3]? = some (.int .i64 es[i].1) ∧ (flatE es)[i * 3 + 1]? = some (.int .i64 es[i].2.1) ∧ (flatE es)[i * 3 + 2]? = some (.string (strB es[i].2.2))
  | [], i, h => by simp at h
  | e :: es, 0, h => ⟨rfl, rfl, rfl⟩
  | e :: es, i + 1, h => by
    have ih := flatE_get es i (by simpa using h)
    have e1 : ∀ k, (flatE (e :: es))[k + 3]? = (flatE es)[k]? := fun k => by
      unfold flatE
      rw [List.flatMap_cons, List.getElem?_append_right (by simp [cellsE])]
      simp [cellsE]
    rw [show (i + 1) * 3 = i * 3 + 3 by omega, show i * 3 + 3 + 1 = (i * 3 + 1) + 3 by omega, show i * 3 + 3 + 2 = (i * 3 + 2) + 3 by omega, e1, e1, e1]
    exact ih
theorem flatE_one {es : List Ent} : ∀ u ∈ flatE es, u.oneCell' = true := by
  intro u hu
  unfold flatE at hu
  obtain ⟨e, _, h⟩ := List.mem_flatMap.1 hu
  simp only [cellsE, List.mem_cons, List.not_mem_nil, or_false] at h
  rcases h with rfl | rfl | rfl <;> rfl
/-- v owns a row of these entries, in a block of S. -/
def RowE (w : World) (S : Nat → Prop) (v : Value) (es : List Ent) : Prop := w.ownsRow 0 35 3 v es.length (flatE es) ∧ ∀ k, OB v k → S k
theorem RowE.made0 (w : World) (S : Nat → Prop) (hS : S w.heap.size) : RowE (w.alloc (.cells #[] 35)) S (.slice (some ⟨w.heap.size, 0, none⟩) 0 0) [] :=
  ⟨World.ownsRow_made (base := 0) (e := 35) (size := 3) w #[] 0 (Nat.zero_le _) (by simp [maxLen]) rfl, fun k hk => by
    have : w.heap.size = k := by simpa [OB, Value.ownBlock] using hk
    rw [← this]
    exact hS⟩
theorem ent_of_flat {w : World} {ad : Addr} {es : List Ent} (h : ∀ j u, (flatE es)[j]? = some u → w.cell? (ad.add j) = some u) : ∀ i (h : i < es.length), w.cell? (ad.add (i * 3)) = some (.int .i64 es[i].1) ∧ w.cell? ⟨(ad.add (i * 3)).block, (ad.add (i * 3)).off + 1, none⟩ = some (.int .i64 es[i].2.1) ∧ w.cell? ⟨(ad.add (i * 3)).block, (ad.add (i * 3)).off + 2, none⟩ = some (.string (strB es[i].2.2)) := by
  intro i hi
  obtain ⟨g0, g1, g2⟩ := flatE_get es i hi
  refine ⟨h _ _ g0, ?_, ?_⟩
  · rw [← add_next]
    exact h _ _ g1
  · have := h _ _ g2
    rw [show i * 3 + 2 = (i * 3 + 1) + 1 by omega, add_next] at this
    have e := add_next ad (i * 3)
    rw [e] at this
    exact this
theorem RowE.lt {w : World} {S : Nat → Prop} {v : Value} {es : List Ent} (h : RowE w S v es) {k : Nat} (hk : OB v k) : k < w.heap.size := (h.1.lt k hk).2
theorem RowE.ent {w : World} {S : Nat → Prop} {v : Value} {es : List Ent} (h : RowE w S v es) {n : Nat} (hn : es.length = n) : ∃ A c, v = .slice A n c ∧ n ≤ c ∧ EntR w (OB v) A n es := by
  subst hn
  rcases h.1.2 with ⟨rfl, h0⟩ | ⟨g, cap, cur, rfl, _, hg, h1, h2, _⟩
  · exact ⟨none, 0, by rw [h0], by omega, rfl, fun hp => by omega⟩
  · have hlt : g < w.heap.size := (Array.getElem?_eq_some_iff.1 hg).1
    exact ⟨_, cap, rfl, h1, rfl, fun _ => ⟨⟨g, 0, none⟩, rfl, by simp [OB, Value.ownBlock], hlt, ent_of_flat (h.1.cells (g := g) rfl)⟩⟩
theorem RowE.kept {w w' : World} {S T : Nat → Prop} {v : Value} {es : List Ent} (h : RowE w S v es) (k : Kept w w' T) (hn : ∀ b, OB v b → ¬ T b) : RowE w' S v es := by
  refine ⟨⟨h.1.1, ?_⟩, h.2⟩
  rcases h.1.2 with h2 | ⟨g, cap, cur, rfl, hb, hh, r⟩
  · exact .inl h2
  · exact .inr ⟨g, cap, cur, rfl, hb, k.heap hh (hn g (by simp [OB, Value.ownBlock])), r⟩
theorem RowE.kept0 {w w' : World} {S : Nat → Prop} {v : Value} {es : List Ent} (h : RowE w S v es) (k : Kept w w' NoB) : RowE w' S v es := h.kept k fun _ _ x => x
theorem RowE.mono {w : World} {S T : Nat → Prop} {v : Value} {es : List Ent} (h : RowE w S v es) (hS : ∀ k, k < w.heap.size → S k → T k) : RowE w T v es := ⟨h.1, fun k hk => hS k (h.lt hk) (h.2 k hk)⟩
theorem EntR.flat {w : World} {S : Nat → Prop} {A : Option Addr} {n : Nat} {es : List Ent} {ad : Addr} (h : EntR w S A n es) (hA : A = some ad) : ∀ j u, (flatE es)[j]? = some u → w.cell? (ad.add j) = some u := by
  intro j u hu
  have hj : j < es.length * 3 := by
    rcases Nat.lt_or_ge j (es.length * 3) with h | h
    · exact h
    · rw [List.getElem?_eq_none (by rw [flatE_len]; exact h)] at hu
      cases hu
  obtain ⟨ad', e, _, _, hc⟩ := h.2 (by have := h.1; omega)
  rw [hA] at e
  injection e with e
  subst e
  have hi : j / 3 < es.length := by omega
  obtain ⟨c0, c1, c2⟩ := hc (j / 3) hi
  obtain ⟨g0, g1, g2⟩ := flatE_get es (j / 3) hi
  have h3 : j = j / 3 * 3 ∨ j = j / 3 * 3 + 1 ∨ j = j / 3 * 3 + 2 := by omega
  rcases h3 with h3 | h3 | h3
  · rw [← h3] at g0 c0
    rw [hu] at g0
    injection g0 with g0
    rw [g0]
    exact c0
  · rw [← h3] at g1
    rw [hu] at g1
    injection g1 with g1
    rw [g1, ← c1, ← add_next, ← h3]
  · rw [← h3] at g2
    rw [hu] at g2
    injection g2 with g2
    have e2 : ad.add j = ⟨(ad.add (j / 3 * 3)).block, (ad.add (j / 3 * 3)).off + 2, none⟩ := by
      rw [h3, show j / 3 * 3 + 2 = (j / 3 * 3 + 1) + 1 by omega]
      have e := add_next ad (j / 3 * 3)
      have e' := add_next ad (j / 3 * 3 + 1)
      rw [e] at e'
      rw [show (j / 3 * 3 + 1 + 1) / 3 = j / 3 by omega]
      exact e'
    rw [g2, ← c2, e2]
theorem info_ent : (Tryd.prog.info? 35).map (fun i => (i.zero, i.size, i.bytes)) = some (some (.agg #[.int .i64 0, .int .i64 0, .string ByteArray.empty]), 3, 32) := by kernel_rfl
section
variable {ops : Array Oper} {rest : List Oper} {o : Oper} {a : Act} {Q : Exit → Act → World → Prop}
/-- append(v, ys...), of entries. -/
theorem wpList_appE {W : World} (hgd : o.guard = none) (s x : Operand)
    (ho : o.op = .call { callee := .builtin .append, args := #[s, x], argTypes := #[22, 22] })
    (S T : Nat → Prop) (v : Value) (xs ys : List Ent) (A : Option Addr) (m c : Nat) (hs : a.eval s = v) (hx : a.eval x = .slice A m c)
    (HO : RowE W S v xs) (HR : EntR W T A m ys) (hS : ∀ k, W.heap.size ≤ k → S k) (hl : xs.length + m ≤ 1000000)
    (h : ∀ v1 w1, RowE w1 S v1 (xs ++ ys) → Kept W w1 (OB v) → (∀ k, OB v1 k → OB v k ∨ W.heap.size ≤ k) → wpList Tryd.prog ops Q rest (a.put o.dst v1) w1) :
    wpList Tryd.prog ops Q (o :: rest) a W := by
  have ht := Tryd.underlying22
  obtain ⟨i0, hi, hzz⟩ := Option.map_eq_some_iff.1 info_ent
  simp only [Prod.mk.injEq] at hzz
  obtain ⟨hz0, hz1, hz2⟩ := hzz
  have hm : ys.length = m := HR.1
  have hrun : ∃ v1 w1, (Builtin.append_ #[22, 22] o.type #[v, .slice A m c]).run Tryd.prog W = .ok v1 w1 ∧ w1.ownsRow 0 35 3 v1 (xs.length + m) (flatE xs ++ flatE ys) ∧ W.grownBy w1 v.ownBlock ∧ (v1.ownBlock = v.ownBlock ∨ v1.ownBlock = some W.heap.size) := by
    rcases A with _ | ad
    · have h0 : m = 0 := by
        rcases Nat.eq_zero_or_pos m with h0 | h0
        · exact h0
        · obtain ⟨ad, h, _⟩ := HR.2 h0
          cases h
      subst h0
      obtain rfl : ys = [] := List.eq_nil_of_length_eq_zero hm
      refine ⟨v, W, ?_, by simpa [flatE] using HO.1, World.grownBy.refl W _, .inl rfl⟩
      rcases HO.1.2 with ⟨rfl, hn⟩ | ⟨g, cap, cur, rfl, _, _, hnc, _⟩
      · simp [Builtin.append_, run_underlying ht, sizeOf, typeInfo, hi, Builtin.lenOf, Builtin.firstCells]
      · simp [Builtin.append_, run_underlying ht, sizeOf, typeInfo, hi, Builtin.lenOf, Builtin.firstCells, hnc, storeCells]
    · obtain ⟨v1, w1, hr, h2, h3, _, h5⟩ := run_append_own_at (P := Tryd.prog) W 0 22 o.type 35 i0 (.agg #[.int .i64 0, .int .i64 0, .string ByteArray.empty]) 3 32 ht hi hz0 hz1 hz2 rfl (by omega) v xs.length (flatE xs) HO.1 ad m c (flatE ys) (by rw [flatE_len, hm]) (HR.flat rfl) flatE_one (by simp only [maxLen]; omega) (by omega) (by omega)
      exact ⟨v1, w1, hr, h2, h3, h5⟩
  obtain ⟨v1, w1, hr, hown, hg, hat⟩ := hrun
  refine wpList_plain hgd fun K hK => ?_
  unfold Oper.wp execOp
  simp only [ho, resolve, invoke, builtin, Sem.run_bind, Sem.run_pure, Result.andThen_ok, List.map_toArray, List.map_cons, List.map_nil, hs, hx, hr]
  have hat' : ∀ k, OB v1 k → OB v k ∨ W.heap.size ≤ k := by
    intro k hk
    unfold OB at hk ⊢
    rcases hat with hat | hat
    · exact .inl (hat ▸ hk)
    · rw [hat] at hk
      injection hk with hk
      exact .inr (by omega)
  refine hK _ _ (h v1 w1 ⟨by rw [List.length_append, hm, flatE_app]; exact hown, fun k hk => ?_⟩ ?_ hat')
  · exact (hat' k hk).elim (HO.2 k) (hS k)
  · exact (Kept.refl W (OB v)).grown hg fun k hk => .inl hk
end
end Go.Proofs.YtammhfnolafknaaDoor
