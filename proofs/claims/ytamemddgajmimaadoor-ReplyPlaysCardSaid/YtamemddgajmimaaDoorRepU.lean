/- Replies: a maker with and without a body: a line more, and the reference's One, by one law of steps. -/
import Derived.Test.YtamemddgajmimaaDoorRepOneB
import Derived.Test.YtamemddgajmimaaDoorStuff5
set_option linter.unusedVariables false
set_option linter.unusedSimpArgs false
namespace Go.Proofs.YtamemddgajmimaaDoor
open Go.RowKit Go.Shelf

/-! ### Plain -/
abbrev PSt := Option Rp ⊕ (List UInt8 × List UInt8)
abbrev RpB := Rp × List UInt8
def plusT (p : Int) (body : Bool) (s : List UInt8) : Option (List UInt8) :=
  if p = 2 ∧ body = true then
    match statusL 2 s with
    | some (c, _, t) => if c = [43] then some t else none
    | none => none
  else none
theorem plusT_some {p : Int} {body : Bool} {s t : List UInt8} (h : plusT p body s = some t) : p = 2 ∧ body = true ∧ statusL 2 s = some ([43], false, t) := by
  unfold plusT at h
  split at h
  next hp =>
    refine ⟨hp.1, hp.2, ?_⟩
    cases hs : statusL 2 s with
    | none => rw [hs] at h; cases h
    | some x =>
      obtain ⟨c, m, t'⟩ := x
      rw [hs] at h
      simp only at h
      split at h
      next hc =>
        injection h with h
        subst hc h
        cases m with
        | false => rfl
        | true => have := status_more hs; omega
      next => cases h
  next => cases h
theorem plusT_none {p : Int} {body : Bool} {s : List UInt8} (h : plusT p body s = none) : p = 2 → body = true → ∀ t, statusL p s ≠ some ([43], false, t) := by
  intro hp hb t hs
  subst hp
  unfold plusT at h
  rw [if_pos ⟨rfl, hb⟩, hs] at h
  simp at h
abbrev StepU := Option RpB × Int × PSt
def ofM (r : StepR) : StepU := (r.1.map (fun q => (q, [])), r.2.1, .inl r.2.2)
def stepU (p : Int) (ps : PSt) (s : List UInt8) (body : Bool) : StepU :=
  match ps with
  | .inl none => match plusT p body s with
    | some t => (none, 0, .inr (t, []))
    | none => ofM (stepM p none s)
  | .inl (some q) => ofM (stepM p (some q) s)
  | .inr (t, l) => match bodyL 1000 l s with
    | (true, _, l') => (some (([43], [t]), l'), 0, .inl none)
    | (false, e, l') => if e = 0 then (none, 0, .inr (t, l')) else (none, e, .inl none)
def rpU (r : Option RpB) : RpB := r.getD (([], []), [])
theorem rpU_ofM (r : StepR) : rpU (ofM r).1 = (rpV r.1, []) := by
  obtain ⟨a, b, c⟩ := r
  cases a <;> rfl
/-- Lines so far, from where a reply began, and the state behind them. -/
def MidU (p : Int) (body : Bool) (pre : List (List UInt8)) : PSt → Prop
  | .inl st => (∀ rest R, rest ≠ [] → runsE p st rest R → runsE p none (pre ++ rest) R) ∧ (st = none → pre = []) ∧ (pre = [] → st = none) ∧ ∀ x, pre.head? = some x → plusT p body x = none
  | .inr (t, l) => ∃ x pre', pre = x :: pre' ∧ plusT p body x = some t ∧ (∀ rest R, rest ≠ [] → brunsE l rest R → brunsE [] (pre' ++ rest) R) ∧ l.length ≤ 1000
theorem MidU.start (p : Int) (body : Bool) : MidU p body [] (.inl none) := ⟨fun _ _ _ h => h, fun _ => rfl, fun _ => rfl, fun x hx => by simp at hx⟩
theorem stepM_mid {p : Int} {st : Option Rp} {s : List UInt8} {st' : Option Rp} (h : stepM p st s = (none, 0, st')) : ∃ q, st' = some q := by
  unfold stepM at h
  cases st with
  | none =>
    simp only at h
    cases hs : statusL p s with
    | none => rw [hs] at h; simp at h
    | some x =>
      obtain ⟨c, m, t⟩ := x
      rw [hs] at h
      cases m <;> simp at h
      exact ⟨_, h.symm⟩
  | some q =>
    obtain ⟨c, ls⟩ := q
    simp only at h
    split at h
    next =>
      cases hs : statusL p s with
      | none => rw [hs] at h; simp at h
      | some x =>
        obtain ⟨c', m, t⟩ := x
        rw [hs] at h
        simp only at h
        split at h
        next =>
          split at h
          next => simp at h
          next =>
            cases m <;> simp at h
            exact ⟨_, h.symm⟩
        next => simp at h
    next =>
      cases hs : lastF p c s with
      | none =>
        rw [hs] at h
        simp only at h
        split at h
        next => simp at h
        next => simp at h; exact ⟨_, h.symm⟩
      | some t =>
        rw [hs] at h
        simp only at h
        split at h
        next => simp at h
        next => simp at h
theorem stepM_end {p : Int} {st : Option Rp} {s : List UInt8} {a : Option Rp} {b : Int} {st' : Option Rp} (h : stepM p st s = (a, b, st')) (hn : a.isSome = true ∨ b ≠ 0) : st' = none := by
  unfold stepM at h
  cases st with
  | none =>
    simp only at h
    cases hs : statusL p s with
    | none => rw [hs] at h; simp at h; exact h.2.2.symm
    | some x =>
      obtain ⟨c, m, t⟩ := x
      rw [hs] at h
      cases m <;> simp at h
      · exact h.2.2.symm
      · obtain ⟨rfl, rfl, _⟩ := h
        simp at hn
  | some q =>
    obtain ⟨c, ls⟩ := q
    simp only at h
    split at h
    next =>
      cases hs : statusL p s with
      | none => rw [hs] at h; simp at h; exact h.2.2.symm
      | some x =>
        obtain ⟨c', m, t⟩ := x
        rw [hs] at h
        simp only at h
        split at h
        next =>
          split at h
          next => simp at h; exact h.2.2.symm
          next =>
            cases m <;> simp at h
            · exact h.2.2.symm
            · obtain ⟨rfl, rfl, _⟩ := h
              simp at hn
        next => simp at h; exact h.2.2.symm
    next =>
      cases hs : lastF p c s with
      | none =>
        rw [hs] at h
        simp only at h
        split at h
        next => simp at h; exact h.2.2.symm
        next =>
          simp at h
          obtain ⟨rfl, rfl, _⟩ := h
          simp at hn
      | some t =>
        rw [hs] at h
        simp only at h
        split at h
        next => simp at h; exact h.2.2.symm
        next => simp at h; exact h.2.2.symm
theorem head_append {x y : List UInt8} {pre : List (List UInt8)} {s : List UInt8} (h : (pre ++ [s]).head? = some x) : pre.head? = some x ∨ (pre = [] ∧ s = x) := by
  cases pre with
  | nil => exact .inr ⟨rfl, by simpa using h⟩
  | cons a b => exact .inl (by simpa using h)
theorem MidU.go {p : Int} {body bit : Bool} {pre : List (List UInt8)} {ps : PSt} {s : List UInt8} {r : Option RpB} {e : Int} {nx : PSt} (h : MidU p body pre ps) (hb : pre = [] → bit = body) (hs : stepU p ps s bit = (r, e, nx)) (hr : ¬ (r.isSome = true ∨ e ≠ 0)) : MidU p body (pre ++ [s]) nx := by
  rcases ps with st | ⟨t, l⟩
  · obtain ⟨h1, h2, h3, h4⟩ := h
    have hM : ∀ {R : StepR}, stepM p st s = R → (r, e, nx) = ofM R → plusT p body s = none ∨ pre ≠ [] → MidU p body (pre ++ [s]) nx := by
      intro R hR he hpl
      obtain ⟨a, b, c⟩ := R
      simp only [ofM, Prod.mk.injEq] at he
      obtain ⟨rfl, rfl, rfl⟩ := he
      have ha : a = none := by
        cases a with
        | none => rfl
        | some x => exact absurd (.inl rfl) hr
      have hb0 : e = 0 := Classical.byContradiction fun hh => hr (.inr hh)
      subst ha hb0
      obtain ⟨q, rfl⟩ := stepM_mid hR
      refine ⟨fun rest R hne hrun => ?_, fun hh => by simp at hh, fun hh => by simp at hh, fun x hx => ?_⟩
      · rw [List.append_assoc]
        exact h1 _ _ (by simp) (.inl ⟨q, hR, hrun⟩)
      · rcases head_append (y := []) hx with hx | ⟨hp, rfl⟩
        · exact h4 x hx
        · exact hpl.resolve_right (fun hh => hh hp)
    cases st with
    | none =>
      have hpre := h2 rfl
      unfold stepU at hs
      simp only at hs
      cases hp : plusT p bit s with
      | none =>
        rw [hp] at hs
        exact hM rfl hs.symm (.inl (by rw [← hb hpre]; exact hp))
      | some t =>
        rw [hp] at hs
        simp only [Prod.mk.injEq] at hs
        obtain ⟨rfl, rfl, rfl⟩ := hs
        subst hpre
        refine ⟨s, [], rfl, by rw [← hb rfl]; exact hp, fun rest R _ hrun => hrun, by simp⟩
    | some q =>
      have hpre : pre ≠ [] := fun hh => by have := h3 hh; cases this
      exact hM rfl hs.symm (.inr hpre)
  · obtain ⟨x, pre', rfl, hp, hrun, hl⟩ := h
    unfold stepU at hs
    simp only at hs
    rcases bodyL_cases l s with ⟨hc, _⟩ | ⟨hc, _⟩ | ⟨l', hc, hl', _⟩
    · rw [hc] at hs
      simp only [Prod.mk.injEq] at hs
      exact absurd (.inl (by rw [← hs.1]; rfl)) hr
    · rw [hc] at hs
      simp only at hs
      rw [if_neg (by decide)] at hs
      simp only [Prod.mk.injEq] at hs
      exact absurd (.inr (by rw [← hs.2.1]; decide)) hr
    · rw [hc] at hs
      simp only [if_true, Prod.mk.injEq] at hs
      obtain ⟨rfl, rfl, rfl⟩ := hs
      refine ⟨x, pre' ++ [s], by simp, hp, fun rest R hne h => ?_, hl'⟩
      rw [List.append_assoc]
      exact hrun _ _ (by simp) (.inl ⟨l', hc, h⟩)
theorem stepU_end {p : Int} {ps : PSt} {s : List UInt8} {bit : Bool} {r : Option RpB} {e : Int} {nx : PSt} (hs : stepU p ps s bit = (r, e, nx)) (hr : r.isSome = true ∨ e ≠ 0) : nx = .inl none := by
  have hM : ∀ {st : Option Rp}, (r, e, nx) = ofM (stepM p st s) → nx = .inl none := by
    intro st he
    obtain ⟨⟨a, b, c⟩, hx⟩ : ∃ x, x = stepM p st s := ⟨_, rfl⟩
    rw [← hx] at he
    simp only [ofM, Prod.mk.injEq] at he
    obtain ⟨h1, h2, rfl⟩ := he
    rw [stepM_end hx.symm (hr.imp (fun hh => by rw [h1] at hh; simpa using hh) (fun hh => by rw [← h2]; exact hh))]
  rcases ps with st | ⟨t, l⟩
  · cases st with
    | none =>
      unfold stepU at hs
      simp only at hs
      cases hp : plusT p bit s with
      | none =>
        rw [hp] at hs
        exact hM hs.symm
      | some t =>
        rw [hp] at hs
        simp only [Prod.mk.injEq] at hs
        obtain ⟨rfl, rfl, rfl⟩ := hs
        simp at hr
    | some q => exact hM hs.symm
  · unfold stepU at hs
    simp only at hs
    rcases bodyL_cases l s with ⟨hc, _⟩ | ⟨hc, _⟩ | ⟨l', hc, hl', _⟩
    · rw [hc] at hs
      simp only [Prod.mk.injEq] at hs
      exact hs.2.2.symm
    · rw [hc] at hs
      simp only at hs
      rw [if_neg (by decide)] at hs
      simp only [Prod.mk.injEq] at hs
      exact hs.2.2.symm
    · rw [hc] at hs
      simp only [if_true, Prod.mk.injEq] at hs
      obtain ⟨rfl, rfl, rfl⟩ := hs
      simp at hr
theorem stepU_mid {p : Int} {ps : PSt} {s : List UInt8} {bit : Bool} {r : Option RpB} {e : Int} {nx : PSt} (hs : stepU p ps s bit = (r, e, nx)) (hr : ¬ (r.isSome = true ∨ e ≠ 0)) : nx ≠ .inl none := by
  have hM : ∀ {st : Option Rp}, (r, e, nx) = ofM (stepM p st s) → nx ≠ .inl none := by
    intro st he
    obtain ⟨⟨a, b, c⟩, hx⟩ : ∃ x, x = stepM p st s := ⟨_, rfl⟩
    rw [← hx] at he
    simp only [ofM, Prod.mk.injEq] at he
    obtain ⟨rfl, rfl, rfl⟩ := he
    have ha : a = none := by
      cases a with
      | none => rfl
      | some x => exact absurd (.inl rfl) hr
    have hb0 : e = 0 := Classical.byContradiction fun hh => hr (.inr hh)
    subst ha hb0
    obtain ⟨q, rfl⟩ := stepM_mid hx.symm
    simp
  rcases ps with st | ⟨t, l⟩
  · cases st with
    | none =>
      unfold stepU at hs
      simp only at hs
      cases hp : plusT p bit s with
      | none =>
        rw [hp] at hs
        exact hM hs.symm
      | some t =>
        rw [hp] at hs
        simp only [Prod.mk.injEq] at hs
        obtain ⟨rfl, rfl, rfl⟩ := hs
        simp
    | some q => exact hM hs.symm
  · unfold stepU at hs
    simp only at hs
    rcases bodyL_cases l s with ⟨hc, _⟩ | ⟨hc, _⟩ | ⟨l', hc, hl', _⟩
    · rw [hc] at hs
      simp only [Prod.mk.injEq] at hs
      exact absurd (.inl (by rw [← hs.1]; rfl)) hr
    · rw [hc] at hs
      simp only at hs
      rw [if_neg (by decide)] at hs
      simp only [Prod.mk.injEq] at hs
      exact absurd (.inr (by rw [← hs.2.1]; decide)) hr
    · rw [hc] at hs
      simp only [if_true, Prod.mk.injEq] at hs
      obtain ⟨rfl, rfl, rfl⟩ := hs
      simp

/-! ### The program's line -/
theorem line_all (w : World) (g : Nat) (p : Int) (st : Option Rp) (v : Value) (s : List UInt8) (body : Bool) (h : MkSt w g p st v) (hl : s.length ≤ 1099511627) (hm : MaxI w) (hb : st = none → plusT p body s = none) :
    Calls Tryd.prog 12 #[.pointer (some ⟨g, 0, none⟩), .string (strB s), .bool body] w (LinePost w g p v (stepM p st s)) := by
  by_cases hbody : p = 2 ∧ body = true
  · obtain ⟨rfl, rfl⟩ := hbody
    cases st with
    | some q => have := h.1; omega
    | none =>
      have hpl := plusT_none (hb rfl) rfl rfl
      cases hs : statusL 2 s with
      | none =>
        obtain ⟨hb, rfl⟩ := h
        have e : stepM 2 none s = (none, 63, none) := by simp [stepM, hs]
        rw [e]
        refine line_idle_stop w g 2 s true _ false 63 [] [] .nilFunc hb (fun k hk => absurd hk ob_nil) (by decide) fun W hk hbW => ?_
        refine (begin_bad W g 2 s true _ _ _ _ _ hbW hl (hm.kept0 hk) hs).mono ?_
        rintro en w' ⟨rfl, hk'⟩
        exact ⟨.slice none 0 0, rfl, hbW.kept0 hk', Row.nil _ _ _, hk'.of_no, fun k hk => absurd hk ob_nil⟩
      | some x =>
        obtain ⟨c, m, t⟩ := x
        have hm0 : m = false := by
          cases m with
          | false => rfl
          | true => have := status_more hs; omega
        subst hm0
        have hc : c ≠ [43] := by
          rintro rfl
          exact hpl t hs
        have e : stepM 2 none s = (some (c, [t]), 0, none) := by simp [stepM, hs]
        rw [e]
        exact line_minus w g s t c v h hl hm hs hc
  · exact line_calls w g p st v s body h hl hm hbody
def MkU (w : World) (N g : Nat) (p : Int) (i : Nat) : PSt → Prop
  | .inl st => ∃ v, MkSt w g p st v ∧ ∀ k, OB v k → N ≤ k
  | .inr (t, l) => p = 2 ∧ l.length ≤ 1000 ∧ ∃ v q n vb, MkB w g [43] t v q l n vb ∧ n ≤ i ∧ (∀ k, OB v k → N ≤ k) ∧ (∀ k, OB vb k → N ≤ k) ∧ N ≤ q
def Busy (ps : PSt) : Bool := match ps with
  | .inl st => st.isSome
  | .inr _ => true
theorem MkU.kept0 {w w' : World} {N g : Nat} {p : Int} {i : Nat} {ps : PSt} (h : MkU w N g p i ps) (k : Kept w w' NoB) : MkU w' N g p i ps := by
  rcases ps with st | ⟨t, l⟩
  · obtain ⟨v, h1, h2⟩ := h
    exact ⟨v, h1.kept0 k, h2⟩
  · obtain ⟨h1, h2, v, q, n, vb, h3, h4⟩ := h
    exact ⟨h1, h2, v, q, n, vb, h3.kept0 k, h4⟩
theorem MkU.mono {w : World} {N g : Nat} {p : Int} {i j : Nat} {ps : PSt} (h : MkU w N g p i ps) (hij : i ≤ j) : MkU w N g p j ps := by
  rcases ps with st | ⟨t, l⟩
  · exact h
  · obtain ⟨h1, h2, v, q, n, vb, h3, h4, h5⟩ := h
    exact ⟨h1, h2, v, q, n, vb, h3, Nat.le_trans h4 hij, h5⟩
theorem MkU.keptR {w w' : World} {N g : Nat} {p : Int} {i : Nat} {ps : PSt} {RB : Nat} {cs : Array Value} (h : MkU w N g p i ps) (hb : Blk w RB 30 cs) (k : Kept w w' (fun k => k = RB)) : MkU w' N g p i ps := by
  rcases ps with st | ⟨t, l⟩
  · obtain ⟨v, h1, h2⟩ := h
    refine ⟨v, h1.kept k ?_ ?_, h2⟩
    · cases st with
      | none => exact h1.1.ne_ hb (by decide)
      | some q => exact h1.2.2.1.ne_ hb (by decide)
    · cases st with
      | none =>
        intro b hk
        rw [h1.2] at hk
        exact absurd hk ob_nil
      | some q => exact fun b hk e => h1.2.2.2.ne_blk hb (by decide) (e ▸ hk)
  · obtain ⟨h1, h2, v, q, n, vb, h3, h4⟩ := h
    exact ⟨h1, h2, v, q, n, vb, h3.kept k (h3.1.ne_ hb (by decide)) (h3.2.2.1.ne_ hb (by decide)) (fun b hk e => h3.2.1.ne_blk hb (by decide) (e ▸ hk)) (fun b hk e => h3.2.2.2.ne_blk hb (by decide) (e ▸ hk)), h4⟩
def LineUPost (w : World) (N M g : Nat) (p : Int) (i : Nat) (r : StepU) (en : Ending) (w' : World) : Prop :=
  ∃ vr vb, en = .returned (.tuple #[.agg #[.string (strB (rpU r.1).1.1), vr, vb], .bool r.1.isSome, .int .i64 r.2.1]) ∧ Row w' 9 anyB vr (strs (rpU r.1).1.2) ∧ Row w' 5 anyB vb (b8s (rpU r.1).2) ∧ MkU w' N g p (i + 1) r.2.2 ∧ Kept w w' (fun k => k = g ∨ (N ≤ k ∧ k < M))
theorem lineM_U {w : World} {N M g : Nat} {p : Int} {i : Nat} {v : Value} {r : StepR} {en : Ending} {w' : World} (hN : N ≤ w.heap.size) (hv : ∀ k, OB v k → N ≤ k ∧ k < M) (h : LinePost w g p v r en w') : LineUPost w N M g p i (ofM r) en w' := by
  obtain ⟨vr, v', rfl, h1, h2, h3, h4, h5⟩ := h
  refine ⟨vr, .slice none 0 0, ?_, ?_, ?_, ⟨v', h2, fun k hk => (h4 k hk).elim (fun h => (hv k h).1) fun h => by omega⟩, h3.mono fun k hk => hk.imp id (hv k)⟩
  · rw [rpU_ofM]
    obtain ⟨a, b, c⟩ := r
    cases a <;> rfl
  · rw [rpU_ofM]; exact h1
  · rw [rpU_ofM]; exact Row.nil _ _ _
theorem lineU_calls (w0 w : World) (N g : Nat) (p : Int) (i : Nat) (ps : PSt) (s : List UInt8) (body : Bool) (r : StepU) (h : MkU w0 N g p i ps) (hk0 : Kept w0 w NoB) (hN : N ≤ w0.heap.size) (hl : s.length ≤ 1099511627) (hi : i ≤ 1000000) (hm : MaxI w) (hr : stepU p ps s body = r) :
    Calls Tryd.prog 12 #[.pointer (some ⟨g, 0, none⟩), .string (strB s), .bool body] w (LineUPost w N w0.heap.size g p i r) := by
  have hN' : N ≤ w.heap.size := Nat.le_trans hN hk0.size
  subst hr
  rcases ps with st | ⟨t, l⟩
  · obtain ⟨v, h1, h2⟩ := h
    have h2' : ∀ k, OB v k → N ≤ k ∧ k < w0.heap.size := fun k hk => ⟨h2 k hk, h1.obl k hk⟩
    replace h1 := h1.kept0 hk0
    cases st with
    | none =>
      unfold stepU
      simp only
      cases hp : plusT p body s with
      | none => exact (line_all w g p none v s body h1 hl hm (fun _ => hp)).mono fun _ _ h => lineM_U hN' h2' h
      | some t =>
        obtain ⟨rfl, rfl, hs⟩ := plusT_some hp
        refine (line_plus w g s t v h1 hl hm hs).mono ?_
        rintro en w' ⟨rfl, v', q, h3, h4, h5, h6⟩
        exact ⟨.slice none 0 0, .slice none 0 0, rfl, Row.nil _ _ _, Row.nil _ _ _, ⟨rfl, by simp, v', q, 0, .slice none 0 0, h3, Nat.zero_le _, fun k hk => by have := h5 k hk; omega, fun k hk => absurd hk ob_nil, by omega⟩, h4.mono fun k hk => .inl hk⟩
    | some q => exact (line_all w g p (some q) v s body h1 hl hm (fun h => by cases h)).mono fun _ _ h => lineM_U hN' h2' h
  · obtain ⟨rfl, hll, v, q, n, vb, h3, h4, h5, h6, h7⟩ := h
    have hq := h3.2.2.1.lt
    have hb := fun k (hk : OB vb k) => h3.2.2.2.lt hk
    replace h3 := h3.kept0 hk0
    have hS : ∀ k, bdS g q vb k → k = g ∨ (N ≤ k ∧ k < w0.heap.size) := fun k hk => by
      rcases hk with rfl | rfl | hk
      · exact .inl rfl
      · exact .inr ⟨h7, hq⟩
      · exact .inr ⟨h6 k hk, hb k hk⟩
    unfold stepU
    simp only
    rcases bodyL_cases l s with ⟨hc, rfl⟩ | ⟨hc, _⟩ | ⟨l', hc, hl', _⟩
    · rw [hc]
      refine (line_end w g [43] t v q l n vb body h3 hll (by omega)).mono ?_
      rintro en w' ⟨vx, rfl, h8, h9, h10, h11⟩
      exact ⟨v, vx, rfl, h8, h9, ⟨.slice none 0 0, h10, fun k hk => absurd hk ob_nil⟩, h11.mono hS⟩
    · rw [hc]
      refine (line_bodied w g [43] t v q l s n vb body 72 l (.inr rfl) h3 hc hll (by omega) (by omega)).mono ?_
      rintro en w' ⟨rfl, h8, h9⟩
      simp only
      rw [if_neg (by decide)]
      exact ⟨.slice none 0 0, .slice none 0 0, rfl, Row.nil _ _ _, Row.nil _ _ _, ⟨.slice none 0 0, h9.2 (by decide), fun k hk => absurd hk ob_nil⟩, h8.mono hS⟩
    · rw [hc]
      refine (line_bodied w g [43] t v q l s n vb body 0 l' (.inl rfl) h3 hc hll (by omega) (by omega)).mono ?_
      rintro en w' ⟨rfl, h8, h9⟩
      obtain ⟨vb', n', hn', h10, h11⟩ := h9.1 rfl
      simp only [if_true]
      exact ⟨.slice none 0 0, .slice none 0 0, rfl, Row.nil _ _ _, Row.nil _ _ _, ⟨rfl, hl', v, q, n', vb', h10, by omega, h5, fun k hk => (h11 k hk).elim (h6 k) fun h => by omega, h7⟩, h8.mono hS⟩
theorem busyU_calls (w : World) (N g : Nat) (p : Int) (i : Nat) (ps : PSt) (h : MkU w N g p i ps) :
    Calls Tryd.prog 15 #[.pointer (some ⟨g, 0, none⟩)] w fun en w' => en = .returned (.bool (Busy ps)) ∧ w' = w := by
  rcases ps with st | ⟨t, l⟩
  · obtain ⟨v, h1, h2⟩ := h
    exact busy_calls w g p st v h1
  · obtain ⟨rfl, hll, v, q, n, vb, h3, h4⟩ := h
    obtain ⟨⟨c0, c1, c2, c3, c4, c5⟩, _⟩ := h3.1.cells6
    unfold bodiedF at c5
    have n1 := neq_nil
    have n2 := neq_func
    clear h3 h4
    go_enter Tryd.func15, Tryd.ntmps15
    go_wp2_with fail
    go_ret
    exact ⟨rfl, rfl⟩

/-! ### The reference's One -/
def OneUPost (w : World) (n : Nat) (r : Option RpB) (e : Int) (en : Ending) (w' : World) : Prop :=
  ∃ vr vb, ∃ nx : Nat, en = .returned (.tuple #[.agg #[.string (strB (rpU r).1.1), vr, vb], .int .i64 ((nx : Nat) : Int), .bool r.isSome, .int .i64 e]) ∧ (r.isSome = true ∨ e ≠ 0 → nx = n) ∧ Row w' 9 anyB vr (strs (rpU r).1.2) ∧ Row w' 5 anyB vb (b8s (rpU r).2) ∧ Kept w w' NoB
theorem oneM_U {w : World} {n : Nat} {r : StepR} {en : Ending} {w' : World} (h : OnePost w n r en w') : OneUPost w n (ofM r).1 (ofM r).2.1 en w' := by
  obtain ⟨vr, nx, rfl, h1, h2, h3⟩ := h
  refine ⟨vr, .slice none 0 0, nx, ?_, ?_, ?_, ?_, h3⟩
  · rw [rpU_ofM]
    obtain ⟨a, b, c⟩ := r
    cases a <;> rfl
  · obtain ⟨a, b, c⟩ := r
    cases a <;> exact h1
  · rw [rpU_ofM]; exact h2.any
  · rw [rpU_ofM]; exact Row.nil _ _ _
theorem oneU_calls (w : World) (p : Int) (S : Nat → Prop) (A : Option Addr) (n cap from_ : Nat) (L pre : List (List UInt8)) (s : List UInt8) (body bit : Bool) (ps : PSt) (r : Option RpB) (e : Int) (nx : PSt) (hA : Reads w S A n (strs L)) (hn : n ≤ 1000000) (hfl : L.drop from_ = pre ++ [s])
    (hel : ∀ x ∈ L, x.length ≤ 1099511627) (hmid : MidU p body pre ps) (hb : pre = [] → bit = body) (hs : stepU p ps s bit = (r, e, nx)) :
    Calls Tryd.prog 13 #[.int .i64 p, .slice A n cap, .int .i64 (from_ : Int), .bool body] w (OneUPost w n r e) := by
  have hln : L.length = n := by have := hA.1; rwa [strs_length] at this
  have hlt : from_ < L.length := by
    have := congrArg List.length hfl
    rw [List.length_drop, List.length_append] at this
    simp at this
    omega
  have hdc := drop_cons hlt
  have hM : ∀ {st : Option Rp}, ps = .inl st → (st = none → plusT p body s = none) → (r, e, nx) = ofM (stepM p st s) → Calls Tryd.prog 13 #[.int .i64 p, .slice A n cap, .int .i64 (from_ : Int), .bool body] w (OneUPost w n r e) := by
    rintro st rfl hpl he
    obtain ⟨h1, h2, h3, h4⟩ := hmid
    refine (refOne_calls w p S A n cap from_ L body (stepM p st s) hA hn (by omega) hlt hel ?_ ?_).mono ?_
    · rw [hfl]
      exact h1 [s] _ (by simp) (.inr ⟨rfl, rfl⟩)
    · refine plusT_none ?_
      rw [hfl] at hdc
      cases pre with
      | nil =>
        have : s = L[from_] := by injection hdc
        rw [← this]
        exact hpl (h3 rfl)
      | cons a b =>
        have : a = L[from_] := by injection hdc
        rw [← this]
        exact h4 a rfl
    · intro en w' h
      have := oneM_U h
      rw [← he] at this
      exact this
  rcases ps with st | ⟨t, l⟩
  · cases st with
    | none =>
      have hpre := hmid.2.1 rfl
      have hbb := hb hpre
      subst hbb
      unfold stepU at hs
      simp only at hs
      cases hp : plusT p bit s with
      | none =>
        rw [hp] at hs
        exact hM rfl (fun _ => hp) hs.symm
      | some t =>
        rw [hp] at hs
        simp only [Prod.mk.injEq] at hs
        obtain ⟨rfl, rfl, rfl⟩ := hs
        obtain ⟨rfl, rfl, hst⟩ := plusT_some hp
        subst hpre
        rw [List.nil_append] at hfl
        rw [hfl] at hdc
        have hx : s = L[from_] := by injection hdc
        have hd : L.drop (from_ + 1) = [] := by injection hdc with _ h; exact h.symm
        refine (refOneB_calls w 2 S A n cap from_ L true t (false, 0, []) hA hn (by omega) hlt hel (by rw [hd]; exact rfl) rfl rfl (hx ▸ hst)).mono ?_
        rintro en w' ⟨nx, hnx, hk, hor⟩
        rcases hor with ⟨h, _⟩ | ⟨_, rfl⟩
        · cases h
        · exact ⟨.slice none 0 0, .slice none 0 0, nx, rfl, fun h => by simp at h, Row.nil _ _ _, Row.nil _ _ _, hk⟩
    | some q => exact hM rfl (fun h => by cases h) hs.symm
  · obtain ⟨x, pre', rfl, hp, hrun, hll⟩ := hmid
    obtain ⟨rfl, rfl, hst⟩ := plusT_some hp
    rw [List.cons_append] at hfl
    rw [hfl] at hdc
    have hx : x = L[from_] := by injection hdc
    have hd : L.drop (from_ + 1) = pre' ++ [s] := by injection hdc with _ h; exact h.symm
    refine (refOneB_calls w 2 S A n cap from_ L true t (bodyL 1000 l s) hA hn (by omega) hlt hel (by rw [hd]; exact hrun [s] _ (by simp) (.inr ⟨rfl, rfl⟩)) rfl rfl (hx ▸ hst)).mono ?_
    rintro en w' ⟨nx', hnx, hk, hor⟩
    unfold stepU at hs
    simp only at hs
    rcases bodyL_cases l s with ⟨hc, _⟩ | ⟨hc, _⟩ | ⟨l', hc, hl', _⟩
    · rw [hc] at hs hor hnx
      simp only [Prod.mk.injEq] at hs
      obtain ⟨rfl, rfl, rfl⟩ := hs
      rcases hor with ⟨_, vr, vb, rfl, h1, h2⟩ | ⟨h, _⟩
      · exact ⟨vr, vb, nx', rfl, fun _ => hnx (.inl rfl), h1.any, h2.any, hk⟩
      · cases h
    · rw [hc] at hs hor hnx
      simp only at hs
      rw [if_neg (by decide)] at hs
      simp only [Prod.mk.injEq] at hs
      obtain ⟨rfl, rfl, rfl⟩ := hs
      rcases hor with ⟨h, _⟩ | ⟨_, rfl⟩
      · cases h
      · exact ⟨.slice none 0 0, .slice none 0 0, nx', rfl, fun _ => hnx (.inr (by simp)), Row.nil _ _ _, Row.nil _ _ _, hk⟩
    · rw [hc] at hs hor hnx
      simp only [if_true, Prod.mk.injEq] at hs
      obtain ⟨rfl, rfl, rfl⟩ := hs
      rcases hor with ⟨h, _⟩ | ⟨_, rfl⟩
      · cases h
      · exact ⟨.slice none 0 0, .slice none 0 0, nx', rfl, fun h => by simp at h, Row.nil _ _ _, Row.nil _ _ _, hk⟩
theorem step_lenU {w : World} {g : Nat} {p : Int} {st : Option Rp} {v : Value} {s : List UInt8} (h : MkSt w g p st v) : (rpV (stepM p st s).1).2.length ≤ 21 := by
  cases st with
  | none =>
    unfold stepM
    cases statusL p s with
    | none => simp [rpV]
    | some x =>
      obtain ⟨c, m, t⟩ := x
      cases m <;> simp [rpV]
  | some q =>
    obtain ⟨c, ls⟩ := q
    have hl := h.2.1
    unfold stepM
    by_cases h1 : p = 1
    · simp only [h1, if_true]
      cases statusL 1 s with
      | none => simp [rpV]
      | some x =>
        obtain ⟨c', m, t⟩ := x
        simp only
        by_cases h2 : c' = c <;> by_cases h3 : 20 ≤ ls.length <;> cases m <;> simp [h2, h3, rpV] <;> omega
    · simp only [h1, if_false]
      cases lastF p c s with
      | none => by_cases h3 : 20 ≤ ls.length <;> simp [h3, rpV]
      | some t => by_cases h3 : 20 ≤ ls.length <;> simp [h3, rpV] <;> omega
theorem stepU_len {w : World} {N g : Nat} {p : Int} {i : Nat} {ps : PSt} {s : List UInt8} {bit : Bool} {r : Option RpB} {e : Int} {nx : PSt} (h : MkU w N g p i ps) (hs : stepU p ps s bit = (r, e, nx)) : (rpU r).1.2.length ≤ 21 := by
  have hM : ∀ {st : Option Rp}, ps = .inl st → (r, e, nx) = ofM (stepM p st s) → (rpU r).1.2.length ≤ 21 := by
    rintro st rfl he
    obtain ⟨v, h1, h2⟩ := h
    have e1 : r = (ofM (stepM p st s)).1 := by rw [← he]
    rw [e1, rpU_ofM]
    exact step_lenU h1
  rcases ps with st | ⟨t, l⟩
  · cases st with
    | none =>
      unfold stepU at hs
      simp only at hs
      cases hp : plusT p bit s with
      | none =>
        rw [hp] at hs
        exact hM rfl hs.symm
      | some t =>
        rw [hp] at hs
        simp only [Prod.mk.injEq] at hs
        obtain ⟨rfl, rfl, rfl⟩ := hs
        simp [rpU]
    | some q => exact hM rfl hs.symm
  · unfold stepU at hs
    simp only at hs
    rcases bodyL_cases l s with ⟨hc, _⟩ | ⟨hc, _⟩ | ⟨l', hc, hl', _⟩
    · rw [hc] at hs
      simp only [Prod.mk.injEq] at hs
      rw [← hs.1]
      simp [rpU]
    · rw [hc] at hs
      simp only at hs
      rw [if_neg (by decide)] at hs
      simp only [Prod.mk.injEq] at hs
      rw [← hs.1]
      simp [rpU]
    · rw [hc] at hs
      simp only [if_true, Prod.mk.injEq] at hs
      obtain ⟨rfl, rfl, rfl⟩ := hs
      simp [rpU]
end Go.Proofs.YtamemddgajmimaaDoor
