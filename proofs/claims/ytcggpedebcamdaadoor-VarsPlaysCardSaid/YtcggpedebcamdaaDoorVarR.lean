/- Variables: the reference's parts: what it computes. -/
import Derived.Test.YtcggpedebcamdaaDoorVarS
set_option linter.unusedVariables false
set_option linter.unusedSimpArgs false
namespace Go.Proofs.YtcggpedebcamdaaDoor
open Go.RowKit Go.Shelf Go.Lib

/-! ### Rows of parts -/
def cellsP (e : Part) : List Value := [.string (strB e.1), .bool e.2]
def flatP (es : List Part) : List Value := es.flatMap cellsP
theorem flatP_len : ∀ es : List Part, (flatP es).length = es.length * 2
  | [] => rfl
  | e :: es => by
    have := flatP_len es
    unfold flatP at *
    rw [List.flatMap_cons, List.length_append, this, List.length_cons]
    simp [cellsP]
    omega
theorem flatP_app (a b : List Part) : flatP (a ++ b) = flatP a ++ flatP b := by unfold flatP; rw [List.flatMap_append]
theorem flatP_get : ∀ (es : List Part) (i : Nat) (h : i < es.length), (flatP es)[i * 2]? = some (.string (strB es[i].1)) ∧ (flatP es)[i * 2 + 1]? = some (.bool es[i].2)
  | [], i, h => by simp at h
  | e :: es, 0, h => ⟨rfl, rfl⟩
  | e :: es, i + 1, h => by
    have ih := flatP_get es i (by simpa using h)
    have e1 : ∀ k, (flatP (e :: es))[k + 2]? = (flatP es)[k]? := fun k => by
      unfold flatP
      rw [List.flatMap_cons, List.getElem?_append_right (by simp [cellsP])]
      simp [cellsP]
    rw [show (i + 1) * 2 = i * 2 + 2 by omega, show i * 2 + 2 + 1 = (i * 2 + 1) + 2 by omega, e1, e1]
    exact ih
def RowP (w : World) (S : Nat → Prop) (v : Value) (es : List Part) : Prop := w.ownsRow 0 65 2 v es.length (flatP es) ∧ ∀ k, OB v k → S k
theorem RowP.nil (w : World) (S : Nat → Prop) : RowP w S (.slice none 0 0) [] := ⟨World.ownsRow_nil _ _ _ _, fun k hk => by simp [OB, Value.ownBlock] at hk⟩
theorem RowP.made0 (w : World) (S : Nat → Prop) (hS : S w.heap.size) : RowP (w.alloc (.cells #[] 65)) S (.slice (some ⟨w.heap.size, 0, none⟩) 0 0) [] :=
  ⟨World.ownsRow_made (base := 0) (e := 65) (size := 2) w #[] 0 (Nat.zero_le _) (by simp [maxLen]) rfl, fun k hk => by
    have : w.heap.size = k := by simpa [OB, Value.ownBlock] using hk
    rw [← this]
    exact hS⟩
theorem RowP.lt {w : World} {S : Nat → Prop} {v : Value} {es : List Part} (h : RowP w S v es) {k : Nat} (hk : OB v k) : k < w.heap.size := (h.1.lt k hk).2
theorem RowP.kept {w w' : World} {S T : Nat → Prop} {v : Value} {es : List Part} (h : RowP w S v es) (k : Kept w w' T) (hn : ∀ b, OB v b → ¬ T b) : RowP w' S v es := by
  refine ⟨⟨h.1.1, ?_⟩, h.2⟩
  rcases h.1.2 with h2 | ⟨g, cap, cur, rfl, hb, hh, r⟩
  · exact .inl h2
  · exact .inr ⟨g, cap, cur, rfl, hb, k.heap hh (hn g (by simp [OB, Value.ownBlock])), r⟩
theorem RowP.kept0 {w w' : World} {S : Nat → Prop} {v : Value} {es : List Part} (h : RowP w S v es) (k : Kept w w' NoB) : RowP w' S v es := h.kept k fun _ _ x => x
theorem RowP.slice {w : World} {S : Nat → Prop} {v : Value} {es : List Part} (h : RowP w S v es) : ∃ A c, v = .slice A es.length c := by
  rcases h.1.2 with ⟨rfl, h0⟩ | ⟨g, cap, cur, rfl, _, hg, h1, h2, _⟩
  · exact ⟨none, 0, by rw [h0]⟩
  · exact ⟨_, cap, rfl⟩
/-- The parts that a slice reads as. -/
def PartR (w : World) (A : Option Addr) (n : Nat) (es : List Part) : Prop := es.length = n ∧ ∀ i (h : i < es.length), ∃ ad, A = some ad ∧ (ad.add (i * 2)).block < w.heap.size ∧ w.cell? (ad.add (i * 2)) = some (.string (strB es[i].1)) ∧ w.cell? ⟨(ad.add (i * 2)).block, (ad.add (i * 2)).off + 1, none⟩ = some (.bool es[i].2)
theorem RowP.part {w : World} {S : Nat → Prop} {v : Value} {es : List Part} (h : RowP w S v es) : ∃ A c, v = .slice A es.length c ∧ PartR w A es.length es := by
  rcases h.1.2 with ⟨rfl, h0⟩ | ⟨g, cap, cur, rfl, _, hg, h1, h2, _⟩
  · refine ⟨none, 0, by rw [h0], rfl, fun i hi => by omega⟩
  · have hlt : g < w.heap.size := (Array.getElem?_eq_some_iff.1 hg).1
    have hc := h.1.cells (g := g) rfl
    refine ⟨_, cap, rfl, rfl, fun i hi => ⟨⟨g, 0, none⟩, rfl, by rw [block_add]; exact hlt, ?_, ?_⟩⟩
    · exact hc _ _ (flatP_get es i hi).1
    · have := hc _ _ (flatP_get es i hi).2
      rw [← add_add] at this
      exact this
theorem PartR.kept0 {w w' : World} {A : Option Addr} {n : Nat} {es : List Part} (h : PartR w A n es) (k : Kept w w' NoB) : PartR w' A n es :=
  ⟨h.1, fun i hi => by obtain ⟨ad, e, hl, h1, h2⟩ := h.2 i hi; exact ⟨ad, e, Nat.lt_of_lt_of_le hl k.size, k.cell h1 (fun x => x), k.cell h2 (fun x => x)⟩⟩
theorem info_part : (Tryd.prog.info? 65).map (fun i => (i.zero, i.size, i.bytes)) = some (some (.agg #[.string ByteArray.empty, .bool false]), 2, 24) := by kernel_rfl
section
variable {ops : Array Oper} {rest : List Oper} {o : Oper} {a : Act} {Q : Exit → Act → World → Prop}
/-- append(v, Part{..}). -/
theorem wpList_appP {W : World} (hgd : o.guard = none) (s x : Operand)
    (ho : o.op = .call { callee := .builtin .append, args := #[s, x], argTypes := #[61, 61] })
    (S : Nat → Prop) (v : Value) (xs : List Part) (y : List UInt8) (q : Bool) (hs : a.eval s = v) (hx : a.eval x = .slice (some ⟨W.heap.size, 0, none⟩) 1 1)
    (HO : RowP W S v xs) (hS : ∀ k, W.heap.size ≤ k → S k) (hl : xs.length ≤ 1099511627)
    (h : ∀ v1 w1, RowP w1 S v1 (xs ++ [(y, q)]) → Kept W w1 (OB v) → wpList Tryd.prog ops Q rest (a.put o.dst v1) w1) :
    wpList Tryd.prog ops Q (o :: rest) a (W.alloc (.cells #[.string (strB y), .bool q] 65)) := by
  obtain ⟨i0, hi, hzz⟩ := Option.map_eq_some_iff.1 info_part
  simp only [Prod.mk.injEq] at hzz
  obtain ⟨hz0, hz1, hz2⟩ := hzz
  have HO2 := HO.1.alloc (.cells #[.string (strB y), .bool q] 65)
  obtain ⟨v1, w1, hr, hown, hg, _, hat⟩ := run_append_own_at (P := Tryd.prog) (W.alloc (.cells #[.string (strB y), .bool q] 65)) 0 61 o.type 65 i0 (.agg #[.string ByteArray.empty, .bool false]) 2 24 Tryd.underlying61 hi hz0 hz1 hz2 rfl (by omega) v xs.length (flatP xs) HO2 ⟨W.heap.size, 0, none⟩ 1 1 [.string (strB y), .bool q] rfl
    (World.news_of_block (cs := #[.string (strB y), .bool q]) (t := 65) (fr := (0, 0)) (heap_alloc_new W _)) (by simp [Value.oneCell']) (by simp only [maxLen]; omega) (by omega) (by simp)
  refine wpList_plain hgd fun K hK => ?_
  unfold Oper.wp execOp
  simp only [ho, resolve, invoke, builtin, Sem.run_bind, Sem.run_pure, Result.andThen_ok, List.map_toArray, List.map_cons, List.map_nil, hs, hx, hr]
  have hat' : ∀ k, OB v1 k → OB v k ∨ W.heap.size ≤ k := by
    intro k hk
    unfold OB at hk ⊢
    rcases hat with hat | hat
    · exact .inl (hat ▸ hk)
    · rw [hat] at hk
      injection hk with hk
      refine .inr ?_
      rw [← hk]
      simp
  have hkp : Kept W w1 (OB v) := ((Kept.refl W (OB v)).alloc _).grown hg fun k hk => .inl hk
  have hf : flatP (xs ++ [(y, q)]) = flatP xs ++ [.string (strB y), .bool q] := by rw [flatP_app]; rfl
  exact hK _ _ (h v1 w1 ⟨by rw [List.length_append, hf]; exact hown, fun k hk => (hat' k hk).elim (HO.2 k) (hS k)⟩ hkp)
end

/-! ### letter -/
def letC (first : Bool) (c : UInt8) : Bool := if first then lowC c else moreC c
theorem letC_all : ∀ (b : Bool) (c : UInt8), letC b c = (decide (97 ≤ c.toNat ∧ c.toNat ≤ 122) || (!b && (decide (48 ≤ c.toNat ∧ c.toNat ≤ 57) || decide (c.toNat = 95)))) := by
  intro b c
  refine of256 (P := fun c => letC b c = (decide (97 ≤ c.toNat ∧ c.toNat ≤ 122) || (!b && (decide (48 ≤ c.toNat ∧ c.toNat ≤ 57) || decide (c.toNat = 95))))) ?_ c
  cases b <;> decide +kernel
set_option maxHeartbeats 1000000 in
set_option maxRecDepth 100000 in
theorem letter_calls (w : World) (c : UInt8) (b q : Bool) (hq : letC b c = q) :
    Calls Tryd.prog 36 #[.int .u8 (c.toNat : Int), .bool b] w fun en w' => en = .returned (.bool q) ∧ w' = w := by
  rw [letC_all] at hq
  obtain ⟨x, hx⟩ : ∃ x : Nat, c.toNat = x := ⟨_, rfl⟩
  rw [hx] at hq ⊢
  go_enter Tryd.func36, Tryd.ntmps36
  by_cases h1 : 97 ≤ x ∧ x ≤ 122
  · have e : q = true := by rw [← hq, decide_eq_true h1]; rfl
    subst e
    have t1 : (97 : Int) ≤ (x : Int) := by omega
    have t2 : (x : Int) ≤ 122 := by omega
    clear hq hx h1
    go_wp2_with fail
    go_ret
    exact ⟨rfl, rfl⟩
  · have hq2 : q = (!b && (decide (48 ≤ x ∧ x ≤ 57) || decide (x = 95))) := by rw [← hq, decide_eq_false h1]; rfl
    have ha : (¬ (97 : Int) ≤ (x : Int)) ∨ ((97 : Int) ≤ (x : Int) ∧ ¬ (x : Int) ≤ 122) := by omega
    clear hq hx h1
    cases b with
    | true =>
      have e : q = false := hq2
      subst e
      rcases ha with t1 | ⟨t1, t2⟩ <;>
      · clear hq2
        go_wp2_with fail
        go_ret
        exact ⟨rfl, rfl⟩
    | false =>
      by_cases h2 : 48 ≤ x ∧ x ≤ 57
      · have e : q = true := by rw [hq2, decide_eq_true h2]; rfl
        subst e
        have t3 : (48 : Int) ≤ (x : Int) := by omega
        have t4 : (x : Int) ≤ 57 := by omega
        rcases ha with t1 | ⟨t1, t2⟩
        · clear hq2 h2
          go_wp2_with fail
          go_ret
          exact ⟨rfl, rfl⟩
        · omega
      · have hb : (¬ (48 : Int) ≤ (x : Int)) ∨ ((48 : Int) ≤ (x : Int) ∧ ¬ (x : Int) ≤ 57) := by omega
        by_cases h3 : x = 95
        · have e : q = true := by rw [hq2, h3]; rfl
          subst e h3
          clear hq2
          go_wp2_with fail
          go_ret
          exact ⟨rfl, rfl⟩
        · have e : q = false := by rw [hq2, decide_eq_false h2, decide_eq_false h3]; rfl
          subst e
          have t5 : ((x : Int) == 95) = false := by rw [beq_eq_false_iff_ne]; omega
          rcases ha with t1 | ⟨t1, t2⟩ <;> rcases hb with t3 | ⟨t3, t4⟩ <;>
          · clear hq2 h2 h3
            go_wp2_with fail
            go_ret
            exact ⟨rfl, rfl⟩
/-! ### A name's length -/
def nameN : List UInt8 → List UInt8
  | [] => []
  | c :: r => if lowC c = true then (c :: r).takeWhile moreC else []
theorem nameN_cons (c : UInt8) (r : List UInt8) : nameN (c :: r) = if lowC c = true then (c :: r).takeWhile moreC else [] := rfl
theorem take_takeWhile {p : UInt8 → Bool} : ∀ l : List UInt8, l.take (l.takeWhile p).length = l.takeWhile p
  | [] => rfl
  | c :: l => by
    cases hc : p c with
    | false => simp [List.takeWhile_cons, hc]
    | true => simp [List.takeWhile_cons, hc, take_takeWhile l]
theorem nameN_prefix (r : List UInt8) : nameN r = r.take (nameN r).length := by
  cases r with
  | nil => rfl
  | cons c r =>
    rw [nameN_cons]
    split
    · exact (take_takeWhile _).symm
    · rfl
theorem takeWhile_at {p : UInt8 → Bool} : ∀ (l : List UInt8) (k : Nat) (h : k < (l.takeWhile p).length), ∃ h' : k < l.length, p l[k] = true
  | [], k, h => by simp at h
  | c :: l, k, h => by
    rw [List.takeWhile_cons] at h
    cases hc : p c with
    | false => rw [hc] at h; simp at h
    | true =>
      rw [hc] at h
      cases k with
      | zero => exact ⟨by simp, hc⟩
      | succ k =>
        obtain ⟨h1, h2⟩ := takeWhile_at l k (by simpa using h)
        exact ⟨by simpa using h1, by simpa using h2⟩
theorem takeWhile_end {p : UInt8 → Bool} : ∀ (l : List UInt8) (h : (l.takeWhile p).length < l.length), p l[(l.takeWhile p).length] = false
  | [], h => by simp at h
  | c :: l, h => by
    cases hc : p c with
    | false => simp [List.takeWhile_cons, hc]
    | true =>
      have h2 : (l.takeWhile p).length < l.length := by rw [List.takeWhile_cons, hc] at h; simpa using h
      have := takeWhile_end l h2
      simpa [List.takeWhile_cons, hc] using this
theorem nameN_at (r : List UInt8) (k : Nat) (h : k < (nameN r).length) : ∃ h' : k < r.length, letC (decide (k = 0)) r[k] = true := by
  cases r with
  | nil => simp [nameN] at h
  | cons c r =>
    rw [nameN_cons] at h
    split at h
    next hl =>
      obtain ⟨h1, h2⟩ := takeWhile_at _ k h
      refine ⟨h1, ?_⟩
      cases k with
      | zero => simpa [letC] using hl
      | succ k => simpa [letC] using h2
    next => simp at h
theorem nameN_end (r : List UInt8) (h : (nameN r).length < r.length) : letC (decide ((nameN r).length = 0)) r[(nameN r).length] = false := by
  cases r with
  | nil => simp at h
  | cons c r =>
    by_cases hl : lowC c = true
    · have e : nameN (c :: r) = (c :: r).takeWhile moreC := by rw [nameN_cons, if_pos hl]
      have h2 := takeWhile_end (p := moreC) (c :: r) (by rw [← e]; exact h)
      have hpos : ¬ ((nameN (c :: r)).length = 0) := by rw [e, List.takeWhile_cons, low_more hl]; simp
      simp only [e] at *
      rw [decide_eq_false hpos]
      exact h2
    · have e : nameN (c :: r) = [] := by rw [nameN_cons, if_neg hl]
      simp only [e, List.length_nil, decide_true, List.getElem_cons_zero]
      simpa [letC] using hl
theorem nameN_len (r : List UInt8) : (nameN r).length ≤ r.length := by
  rw [nameN_prefix r, List.length_take]
  omega
/-- What stands behind a sign. -/
theorem sign_name (r : List UInt8) (h : (nameN r).length ≠ 0) : partsM .s r = (partsL (r.drop (nameN r).length)).map ([(nameN r, true)] ++ ·) := by
  cases r with
  | nil => simp [nameN] at h
  | cons c r =>
    by_cases hl : lowC c = true
    · have e : nameN (c :: r) = (c :: r).takeWhile moreC := by rw [nameN_cons, if_pos hl]
      have e2 : (c :: r).drop (nameN (c :: r)).length = (c :: r).dropWhile moreC := by
        rw [e]
        conv => lhs; rw [← List.takeWhile_append_dropWhile (p := moreC) (l := c :: r)]
        rw [List.drop_left']
        simp [List.takeWhile_append_dropWhile]
      rw [partsM_sign, e2, e]
      simp only
      rw [if_pos hl]
      rfl
    · exfalso
      apply h
      rw [nameN_cons, if_neg hl]
      rfl
theorem sign_none (r : List UInt8) (h : (nameN r).length = 0) : partsM .s r = match r with
    | [] => none
    | c :: r' => if c = 36 then (partsL r').map ([([36], false)] ++ ·) else none := by
  cases r with
  | nil => rfl
  | cons c r =>
    by_cases hl : lowC c = true
    · exfalso
      have e : nameN (c :: r) = (c :: r).takeWhile moreC := by rw [nameN_cons, if_pos hl]
      rw [e, List.takeWhile_cons, low_more hl] at h
      simp at h
    · rw [partsM_sign]
      simp only
      rw [if_neg hl]
      rfl
end Go.Proofs.YtcggpedebcamdaaDoor
