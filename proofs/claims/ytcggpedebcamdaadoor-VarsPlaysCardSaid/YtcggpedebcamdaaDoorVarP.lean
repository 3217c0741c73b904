/- Variables: what a text's parts are, what it stands for. Plain theorems. -/
import Derived.Test.YtcggpedebcamdaaDoorW
import Derived.Lib.SlTrimSet
import Derived.Lib.IndexMore
set_option linter.unusedVariables false
set_option linter.unusedSimpArgs false
namespace Go.Proofs.YtcggpedebcamdaaDoor

def lowC (c : UInt8) : Bool := decide (97 ≤ c.toNat ∧ c.toNat ≤ 122)
def moreC (c : UInt8) : Bool := lowC c || (decide (48 ≤ c.toNat ∧ c.toNat ≤ 57) || c == 95)
abbrev Part := List UInt8 × Bool
inductive Mode where
  | n
  | s
  | m (nm : List UInt8)
/-- The parts of a text, read byte by byte. -/
def partsM : Mode → List UInt8 → Option (List Part)
  | .n, [] => some []
  | .s, [] => none
  | .m nm, [] => some [(nm, true)]
  | .n, c :: r => if c = 36 then partsM .s r else (partsM .n r).map (([c], false) :: ·)
  | .s, c :: r => if lowC c = true then partsM (.m [c]) r else if c = 36 then (partsM .n r).map (([36], false) :: ·) else none
  | .m nm, c :: r => if moreC c = true then partsM (.m (nm ++ [c])) r else if c = 36 then (partsM .s r).map ((nm, true) :: ·) else (partsM .n r).map (fun l => (nm, true) :: ([c], false) :: l)
def partsL (t : List UInt8) : Option (List Part) := partsM .n t
/-- Bytes as parts. -/
def plainP (a : List UInt8) : List Part := a.map fun c => ([c], false)
theorem low_more {c : UInt8} (h : lowC c = true) : moreC c = true := by simp [moreC, h]
theorem low_no36 : lowC 36 = false := by decide
theorem more_no36 : moreC 36 = false := by decide
theorem more_no32 : moreC 32 = false := by decide
theorem low_no32 : lowC 32 = false := by decide
theorem partsM_name : ∀ (r nm : List UInt8), partsM (.m nm) r = (partsM .n (r.dropWhile moreC)).map ((nm ++ r.takeWhile moreC, true) :: ·)
  | [], nm => by simp [partsM]
  | c :: r, nm => by
    by_cases h : moreC c = true
    · rw [partsM, if_pos h, partsM_name r, List.dropWhile_cons_of_pos h, List.takeWhile_cons_of_pos h]
      simp
    · rw [partsM, if_neg h, List.dropWhile_cons_of_neg h, List.takeWhile_cons_of_neg h]
      by_cases h36 : c = 36
      · rw [if_pos h36, partsM, if_pos h36]
        simp
      · rw [if_neg h36, partsM, if_neg h36]
        cases partsM .n r <;> simp
theorem partsM_sign (r : List UInt8) : partsM .s r = match r with
    | [] => none
    | c :: r' => if lowC c = true then (partsL (r.dropWhile moreC)).map ((r.takeWhile moreC, true) :: ·) else if c = 36 then (partsL r').map (([36], false) :: ·) else none := by
  cases r with
  | nil => rfl
  | cons c r' =>
    simp only [partsM, partsL]
    by_cases h : lowC c = true
    · rw [if_pos h, if_pos h, partsM_name, List.dropWhile_cons_of_pos (low_more h), List.takeWhile_cons_of_pos (low_more h)]
      simp
    · rw [if_neg h, if_neg h]
theorem plainP_app (a b : List UInt8) : plainP (a ++ b) = plainP a ++ plainP b := by simp [plainP]
theorem partsL_plain : ∀ (a r : List UInt8), (36 : UInt8) ∉ a → partsL (a ++ r) = (partsL r).map (plainP a ++ ·)
  | [], r, _ => by
    cases h : partsL r <;> simp [plainP, h]
  | c :: a, r, h => by
    have h36 : ¬ c = 36 := fun e => h (by simp [e])
    have ih := partsL_plain a r (fun hh => h (by simp [hh]))
    rw [List.cons_append, partsL, partsM, if_neg h36]
    rw [partsL] at ih
    rw [ih]
    cases partsL r <;> simp [plainP]
theorem partsL_nil : partsL [] = some [] := rfl
theorem partsL_dollar (r : List UInt8) : partsL (36 :: r) = partsM .s r := by
  rw [partsL, partsM, if_pos rfl]
theorem partsL_all {a : List UInt8} (h : (36 : UInt8) ∉ a) : partsL a = some (plainP a) := by
  have := partsL_plain a [] h
  rw [List.append_nil] at this
  rw [this]
  simp [partsL_nil]
/-- The names of parts; what parts stand for. -/
def namesP (l : List Part) : List (List UInt8) := (l.filter (·.2)).map (·.1)
def textP (m : List UInt8 → Option (List UInt8)) : List Part → Option (List UInt8)
  | [] => some []
  | (s, false) :: r => (textP m r).map (s ++ ·)
  | (s, true) :: r => (m s).bind fun v => (textP m r).map (v ++ ·)
/-- What is written of parts, a name that is not set as nothing. -/
def wroteP (m : List UInt8 → Option (List UInt8)) (l : List Part) : List UInt8 := l.flatMap fun p => if p.2 then (m p.1).getD [] else p.1
def okP (m : List UInt8 → Option (List UInt8)) (l : List Part) : Prop := ∀ p ∈ l, p.2 = true → (m p.1).isSome = true
theorem namesP_app (a b : List Part) : namesP (a ++ b) = namesP a ++ namesP b := by simp [namesP]
theorem namesP_plain (a : List UInt8) : namesP (plainP a) = [] := by
  induction a with
  | nil => rfl
  | cons c a ih => (simp only [namesP, plainP] at ih; simp [namesP, plainP, ih])
theorem wroteP_app (m : List UInt8 → Option (List UInt8)) (a b : List Part) : wroteP m (a ++ b) = wroteP m a ++ wroteP m b := by simp [wroteP]
theorem wroteP_plain (m : List UInt8 → Option (List UInt8)) (a : List UInt8) : wroteP m (plainP a) = a := by
  induction a with
  | nil => rfl
  | cons c a ih =>
    simp only [wroteP, plainP] at ih
    simp [wroteP, plainP, ih]
theorem textP_ok {m : List UInt8 → Option (List UInt8)} : ∀ {l : List Part}, okP m l → textP m l = some (wroteP m l)
  | [], _ => rfl
  | (s, false) :: r, h => by
    rw [textP, textP_ok (fun p hp => h p (by simp [hp]))]
    simp [wroteP]
  | (s, true) :: r, h => by
    have h1 := h (s, true) (by simp) rfl
    obtain ⟨v, hv⟩ := Option.isSome_iff_exists.1 h1
    rw [textP, textP_ok (fun p hp => h p (by simp [hp])), hv]
    simp [wroteP, hv]
theorem textP_bad {m : List UInt8 → Option (List UInt8)} : ∀ {l : List Part} {s : List UInt8}, (s, true) ∈ l → m s = none → textP m l = none
  | [], s, h, _ => by simp at h
  | (s', false) :: r, s, h, hm => by
    rw [textP, textP_bad (l := r) (by simpa using h) hm]
    rfl
  | (s', true) :: r, s, h, hm => by
    rw [textP]
    by_cases e : s' = s
    · rw [e, hm]
      rfl
    · have hr : (s, true) ∈ r := by
        rcases List.mem_cons.1 h with h | h
        · injection h with h1 _
          exact absurd h1.symm e
        · exact h
      rw [textP_bad hr hm]
      cases m s' <;> rfl
theorem textP_some {m : List UInt8 → Option (List UInt8)} {l : List Part} {x : List UInt8} (h : textP m l = some x) : okP m l ∧ x = wroteP m l := by
  have hok : okP m l := by
    intro p hp h2
    cases hm : m p.1 with
    | some v => rfl
    | none =>
      obtain ⟨s, b⟩ := p
      simp only at h2 hm
      subst h2
      rw [textP_bad hp hm] at h
      cases h
  refine ⟨hok, ?_⟩
  rw [textP_ok hok] at h
  injection h with h
  exact h.symm
def expandL (m : List UInt8 → Option (List UInt8)) (t : List UInt8) : Option (List UInt8) := (partsL t).bind (textP m)
def namesL (t : List UInt8) : Option (List (List UInt8)) := (partsL t).map namesP
/-- The weight of parts. -/
def wtP (l : List Part) : Nat := (l.map fun p => p.1.length + if p.2 then 1 else 0).sum
theorem wtP_app (a b : List Part) : wtP (a ++ b) = wtP a + wtP b := by simp [wtP]
theorem wtP_plain (a : List UInt8) : wtP (plainP a) = a.length := by
  induction a with
  | nil => rfl
  | cons c a ih =>
    simp only [plainP, wtP, List.map_cons, List.sum_cons, List.length_cons] at ih ⊢
    rw [ih]
    simp
    omega
theorem wtP_name (s : List UInt8) : wtP [(s, true)] = s.length + 1 := by simp [wtP]
theorem wrote_len {m : List UInt8 → Option (List UInt8)} {K : Nat} (hK : ∀ s v, m s = some v → v.length ≤ K) (h1 : 1 ≤ K) : ∀ l : List Part, (wroteP m l).length ≤ K * wtP l
  | [] => by simp [wroteP]
  | (s, b) :: r => by
    have ih := wrote_len hK h1 r
    have e : wroteP m ((s, b) :: r) = (if b then (m s).getD [] else s) ++ wroteP m r := by simp [wroteP]
    have e2 : wtP ((s, b) :: r) = (s.length + if b then 1 else 0) + wtP r := by simp [wtP]
    rw [e, e2, List.length_append, Nat.mul_add]
    have : (if b = true then (m s).getD [] else s).length ≤ K * (s.length + if b then 1 else 0) := by
      cases b with
      | false =>
        simp only [Bool.false_eq_true, if_false, Nat.add_zero]
        exact Nat.le_mul_of_pos_left _ (by omega)
      | true =>
        simp only [if_true]
        cases hm : m s with
        | none => simp
        | some v =>
          have := hK s v hm
          rw [Nat.mul_add, Nat.mul_one]
          simp only [Option.getD_some]
          omega
    omega
theorem names_len (l : List Part) : (namesP l).length ≤ wtP l := by
  induction l with
  | nil => simp [namesP]
  | cons p l ih =>
    obtain ⟨s, b⟩ := p
    have e2 : wtP ((s, b) :: l) = (s.length + if b then 1 else 0) + wtP l := by simp [wtP]
    rw [e2]
    cases b with
    | false => simpa [namesP] using Nat.le_trans ih (by omega)
    | true =>
      have : (namesP ((s, true) :: l)).length = (namesP l).length + 1 := by simp [namesP]
      rw [this]
      simp only [if_true]
      omega
/-! ### Two texts, a blank between -/
theorem partsM_two : ∀ (s : List UInt8) (md : Mode) (t : List UInt8), partsM md (s ++ 32 :: t) = (partsM md s).bind fun a => (partsL t).map fun b => a ++ ([32], false) :: b
  | [], .n, t => by
    simp [partsM, partsL]
  | [], .s, t => by
    simp [partsM, low_no32]
  | [], .m nm, t => by
    simp [partsM, more_no32, partsL]
  | c :: s, .n, t => by
    rw [List.cons_append, partsM, partsM]
    by_cases h : c = 36
    · rw [if_pos h, if_pos h, partsM_two]
    · rw [if_neg h, if_neg h, partsM_two]
      cases partsM .n s <;> cases partsL t <;> simp
  | c :: s, .s, t => by
    rw [List.cons_append, partsM, partsM]
    by_cases h1 : lowC c = true
    · rw [if_pos h1, if_pos h1, partsM_two]
    · rw [if_neg h1, if_neg h1]
      by_cases h : c = 36
      · rw [if_pos h, if_pos h, partsM_two]
        cases partsM .n s <;> cases partsL t <;> simp
      · rw [if_neg h, if_neg h]
        rfl
  | c :: s, .m nm, t => by
    rw [List.cons_append, partsM, partsM]
    by_cases h1 : moreC c = true
    · rw [if_pos h1, if_pos h1, partsM_two]
    · rw [if_neg h1, if_neg h1]
      by_cases h : c = 36
      · rw [if_pos h, if_pos h, partsM_two]
        cases partsM .s s <;> cases partsL t <;> simp
      · rw [if_neg h, if_neg h, partsM_two]
        cases partsM .n s <;> cases partsL t <;> simp
theorem partsL_two (s t : List UInt8) : partsL (s ++ 32 :: t) = (partsL s).bind fun a => (partsL t).map fun b => a ++ ([32], false) :: b := partsM_two s .n t
theorem textP_app (m : List UInt8 → Option (List UInt8)) : ∀ a b : List Part, textP m (a ++ b) = (textP m a).bind fun x => (textP m b).map fun y => x ++ y
  | [], b => by cases h : textP m b <;> simp [textP, h]
  | (s, false) :: a, b => by
    rw [List.cons_append, textP, textP, textP_app m a b]
    cases textP m a <;> cases textP m b <;> simp
  | (s, true) :: a, b => by
    rw [List.cons_append, textP, textP, textP_app m a b]
    cases m s <;> cases textP m a <;> cases textP m b <;> simp
theorem expand_two (m : List UInt8 → Option (List UInt8)) (s t : List UInt8) : expandL m (s ++ 32 :: t) = (expandL m s).bind fun x => (expandL m t).map fun y => x ++ 32 :: y := by
  unfold expandL
  rw [partsL_two]
  cases partsL s with
  | none => rfl
  | some a =>
    cases partsL t with
    | none =>
      simp
    | some b =>
      simp only [Option.bind_some, Option.map_some]
      rw [textP_app, textP]
      cases textP m a <;> cases textP m b <;> simp
theorem names_two (s t : List UInt8) : namesL (s ++ 32 :: t) = (namesL s).bind fun x => (namesL t).map fun y => x ++ y := by
  unfold namesL
  rw [partsL_two]
  cases partsL s with
  | none => rfl
  | some a =>
    cases partsL t with
    | none => rfl
    | some b =>
      simp [namesP]
theorem expand_names {m : List UInt8 → Option (List UInt8)} {s x : List UInt8} (h : expandL m s = some x) : (namesL s).isSome = true := by
  unfold expandL at h
  unfold namesL
  cases hp : partsL s with
  | none => rw [hp] at h; cases h
  | some a => rfl
/-! ### Signs doubled -/
def twiceL (t : List UInt8) : List UInt8 := t.flatMap fun c => if c = 36 then [36, 36] else [c]
def bareL (t : List UInt8) : List UInt8 := t.filter fun c => !(c == 36)
theorem bare_no (t : List UInt8) : (36 : UInt8) ∉ bareL t := by
  intro h
  have := (List.mem_filter.1 h).2
  simp at this
theorem parts_twice : ∀ t : List UInt8, partsL (twiceL t) = some (plainP t)
  | [] => rfl
  | c :: t => by
    have ih := parts_twice t
    by_cases h : c = 36
    · subst h
      have e : twiceL (36 :: t) = 36 :: 36 :: twiceL t := by simp [twiceL]
      rw [e, partsL, partsM, if_pos rfl, partsM, if_neg (by decide), if_pos rfl]
      rw [partsL] at ih
      rw [ih]
      rfl
    · have e : twiceL (c :: t) = c :: twiceL t := by simp [twiceL, h]
      rw [e, partsL, partsM, if_neg h]
      rw [partsL] at ih
      rw [ih]
      rfl
theorem okP_plain (m : List UInt8 → Option (List UInt8)) (a : List UInt8) : okP m (plainP a) := by
  intro p hp h2
  obtain ⟨c, _, rfl⟩ := List.mem_map.1 hp
  cases h2
theorem expand_twice (m : List UInt8 → Option (List UInt8)) (t : List UInt8) : expandL m (twiceL t) = some t := by
  rw [expandL, parts_twice, Option.bind_some, textP_ok (okP_plain m t), wroteP_plain]
theorem names_twice (t : List UInt8) : namesL (twiceL t) = some [] := by
  rw [namesL, parts_twice, Option.map_some, namesP_plain]
theorem expand_bare (m : List UInt8 → Option (List UInt8)) (t : List UInt8) : expandL m (bareL t) = some (bareL t) := by
  rw [expandL, partsL_all (bare_no t), Option.bind_some, textP_ok (okP_plain m _), wroteP_plain]
theorem parts_bare1 (t : List UInt8) : partsL (bareL t ++ [36]) = none := by
  rw [partsL_plain _ _ (bare_no t), partsL_dollar]
  rfl
theorem expand_bare1 (m : List UInt8 → Option (List UInt8)) (t : List UInt8) : expandL m (bareL t ++ [36]) = none := by
  rw [expandL, parts_bare1]
  rfl
theorem names_bare1 (t : List UInt8) : namesL (bareL t ++ [36]) = none := by
  rw [namesL, parts_bare1]
  rfl
end Go.Proofs.YtcggpedebcamdaaDoor
