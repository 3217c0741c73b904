/- Plain laws of lines: codes, signs, patterns; of the program and of the reference. -/
import Derived.Test.YtamemddgajmimaaDoorCapsP
import Derived.Lib.SlTrimSet
import Derived.Lib.IndexMore
set_option linter.unusedVariables false
set_option linter.unusedSimpArgs false
namespace Go.Proofs.YtamemddgajmimaaDoor
open Go.RowKit Go.Lib

/-! ### Digits -/
def dgC (c : UInt8) : Bool := decide (48 ≤ c.toNat ∧ c.toNat ≤ 57)
def fstC (c : UInt8) : Bool := decide (49 ≤ c.toNat ∧ c.toNat ≤ 53)
def numL : List UInt8 → Bool
  | [] => false
  | c :: r => fstC c && (c :: r).all dgC
def digS : List UInt8 := [48, 49, 50, 51, 52, 53, 54, 55, 56, 57]
def fstS : List UInt8 := [49, 50, 51, 52, 53]
theorem of256 {P : UInt8 → Prop} (h : ∀ k : Fin 256, P (UInt8.ofNat k.val)) (c : UInt8) : P c := by
  have := h ⟨c.toNat, c.toNat_lt⟩
  simpa using this
theorem digS_mem (c : UInt8) : digS.contains c = dgC c := by
  revert c
  exact of256 (P := fun c => digS.contains c = dgC c) (by decide +kernel)
theorem fstS_index (c : UInt8) : decide (0 ≤ indexByte fstS c) = fstC c := by
  revert c
  exact of256 (P := fun c => decide (0 ≤ indexByte fstS c) = fstC c) (by decide +kernel)
theorem dropWhile_nil {p : UInt8 → Bool} : ∀ l : List UInt8, (l.dropWhile p = [] ↔ l.all p = true)
  | [] => by simp
  | c :: l => by
    rw [List.dropWhile_cons]
    cases h : p c
    · simp [h]
    · simp [h, dropWhile_nil l]
theorem trim_dig (l : List UInt8) : trimS l digS = [] ↔ l.all dgC = true := by
  have e : (fun c => digS.contains c) = dgC := funext digS_mem
  unfold trimS trimRightS trimLeftS
  rw [e]
  constructor
  · intro h
    have h1 := (dropWhile_nil _).1 h
    rw [List.all_reverse] at h1
    cases h2 : l.all dgC with
    | true => rfl
    | false =>
      exfalso
      have h3 : l.reverse.dropWhile dgC ≠ [] := by
        intro h4
        have := (dropWhile_nil _).1 h4
        rw [List.all_reverse, h2] at this
        cases this
      cases h5 : l.reverse.dropWhile dgC with
      | nil => exact h3 h5
      | cons a r =>
        have h6 := List.head?_dropWhile_not dgC l.reverse
        rw [h5] at h6
        simp at h6
        rw [h5] at h1
        simp [h6] at h1
  · intro h
    have h1 : l.reverse.dropWhile dgC = [] := (dropWhile_nil _).2 (by rw [List.all_reverse]; exact h)
    rw [h1]
    rfl

/-! ### What a line says -/
abbrev StV := List UInt8 × Bool × List UInt8
def tailV (c : List UInt8) : List UInt8 → Option StV
  | [] => some (c, false, [])
  | b :: t => if b = 45 then some (c, true, t) else if b = 32 then some (c, false, t) else none
def numberedL (s : List UInt8) : Option StV := if numL (s.take 3) = true ∧ 3 ≤ s.length then tailV (s.take 3) (s.drop 3) else none
def begL (b : List UInt8) : Option (List UInt8) := if b = [43, 79, 75] then some [43] else if b = [45, 69, 82, 82] then some [45] else if b = [43] then some [62] else none
def signedL (s : List UInt8) : Option StV := (begL (cut s [32]).1).map fun c => (c, false, (cut s [32]).2.1)
def statusL (proto : Int) (s : List UInt8) : Option StV := if proto = 1 ∨ proto = 3 then numberedL s else if proto = 2 then signedL s else none
def patL (proto : Int) (s : List UInt8) : Bool := if proto = 1 ∨ proto = 3 then decide (s.length ≤ 3) && numL s else if proto = 2 then s == [43] || (s == [45] || s == [62]) else false
def codesL (proto : Int) (l : List UInt8) : Bool := (split l [44]).all (patL proto)
def preL (code s : List UInt8) : Bool := !s.isEmpty && s.isPrefixOf code
def matchL (codes code : List UInt8) : Bool := (split codes [44]).any (preL code)

theorem cut_nil : cut [] [32] = ([], [], false) := rfl
theorem cut_cons (c : UInt8) (l : List UInt8) : cut (c :: l) [32] = if c = 32 then ([], l, true) else (c :: (cut l [32]).1, (cut l [32]).2.1, (cut l [32]).2.2) := by
  by_cases h : c = 32
  · subst h
    rw [if_pos rfl]
    unfold cut
    rw [index_pre (by simp) (by simp [List.isPrefixOf])]
    simp
  · rw [if_neg h]
    have hi := index_cons (b := c) (l := l) (sep := [32]) (by simp [List.isPrefixOf, Ne.symm h])
    unfold cut
    by_cases hm : index l [32] = -1
    · rw [hi, hm]
      simp
    · have hge := index_ge l [32]
      obtain ⟨j, hj⟩ : ∃ j : Nat, index l [32] = j := ⟨(index l [32]).toNat, by omega⟩
      have hix : index (c :: l) [32] = ((j + 1 : Nat) : Int) := by rw [hi, if_neg (fun e => hm (beq_iff_eq.1 e)), hj]; omega
      rw [hix, hj]
      have e1 : ¬ (((j + 1 : Nat) : Int) < 0) := by omega
      have e2 : ¬ ((j : Nat) : Int) < 0 := by omega
      simp [e1, e2]
      omega
theorem cut_len (l : List UInt8) : (cut l [32]).1.length ≤ l.length ∧ (cut l [32]).2.1.length ≤ l.length := by
  induction l with
  | nil => rw [cut_nil]; simp
  | cons c l ih =>
    rw [cut_cons]
    split
    · simp
    · simp
      omega

/-! ### The reference -/
def restL (s b : List UInt8) : Option (List UInt8) :=
  if b.isPrefixOf s then
    match s.drop b.length with
    | [] => some []
    | c :: t => if c = 32 then some t else none
  else none
theorem rest_cut : ∀ (b s : List UInt8), (32 : UInt8) ∉ b → restL s b = if (cut s [32]).1 = b then some (cut s [32]).2.1 else none
  | [], [], _ => rfl
  | [], c :: t, _ => by
    rw [cut_cons]
    by_cases h : c = 32
    · simp [restL, h]
    · simp [restL, h]
  | x :: b, [], _ => by simp [restL, cut_nil]
  | x :: b, c :: t, h => by
    have hx : x ≠ 32 := fun e => h (by simp [e])
    have hb : (32 : UInt8) ∉ b := fun e => h (by simp [e])
    have ih := rest_cut b t hb
    rw [cut_cons]
    have hstep : restL (c :: t) (x :: b) = if x = c then restL t b else none := by
      unfold restL
      by_cases e : x = c
      · subst e; simp [List.isPrefixOf]
      · simp [List.isPrefixOf, e]
    rw [hstep]
    by_cases e : c = 32
    · subst e
      rw [if_neg hx, if_pos rfl]
      simp
    · rw [if_neg e]
      by_cases e2 : x = c
      · subst e2
        rw [if_pos rfl, ih]
        simp
      · rw [if_neg e2, if_neg]
        intro e3
        injection e3 with e3 _
        exact e2 e3.symm
def signedR (s : List UInt8) : Option StV :=
  match restL s [43, 79, 75] with
  | some t => some ([43], false, t)
  | none =>
    match restL s [45, 69, 82, 82] with
    | some t => some ([45], false, t)
    | none =>
      match restL s [43] with
      | some t => some ([62], false, t)
      | none => none
theorem signed_ref (s : List UInt8) : signedR s = signedL s := by
  unfold signedR signedL begL
  rw [rest_cut _ _ (by decide), rest_cut _ _ (by decide), rest_cut _ _ (by decide)]
  by_cases h1 : (cut s [32]).1 = [43, 79, 75]
  · simp [h1]
  · by_cases h2 : (cut s [32]).1 = [45, 69, 82, 82]
    · simp [h2]
    · by_cases h3 : (cut s [32]).1 = [43]
      · simp [h3]
      · simp [h1, h2, h3]

/-! ### Pieces -/
def splitG : List UInt8 → List UInt8 → List (List UInt8)
  | cur, [] => [cur]
  | cur, c :: r => if c = 44 then cur :: splitG [] r else splitG (cur ++ [c]) r
theorem modHead_id (ls : List (List UInt8)) : ls.modifyHead (fun x => x) = ls := by cases ls <;> rfl
theorem splitG_mod : ∀ (l cur : List UInt8), (split l [44]).modifyHead (cur ++ ·) = splitG cur l
  | [], cur => by
    rw [split_nil (by simp), splitG]
    simp
  | c :: r, cur => by
    rw [splitG]
    by_cases h : c = 44
    · subst h
      rw [split_hit (by simp) (by simp [List.isPrefixOf]), if_pos rfl]
      have ih := splitG_mod r []
      simp only [List.nil_append, modHead_id] at ih
      simp [ih]
    · rw [split_cons (by simp) (by simp [List.isPrefixOf, Ne.symm h]), if_neg h, ← splitG_mod r (cur ++ [c])]
      cases split r [44] <;> simp
theorem split_G (l : List UInt8) : split l [44] = splitG [] l := by
  rw [← splitG_mod l []]
  simp only [List.nil_append, modHead_id]
theorem split_app (a b : List UInt8) : split (a ++ 44 :: b) [44] = split a [44] ++ split b [44] := by
  rw [split_G, split_G, split_G]
  have h : ∀ (a cur : List UInt8), splitG cur (a ++ 44 :: b) = splitG cur a ++ splitG [] b := by
    intro a
    induction a with
    | nil => intro cur; simp [splitG]
    | cons c a ih =>
      intro cur
      rw [List.cons_append, splitG, splitG]
      split
      · rw [ih]; rfl
      · exact ih _
  exact h a []
theorem split_one {l : List UInt8} (h : (44 : UInt8) ∉ l) : split l [44] = [l] := by
  rw [split_G]
  have h : ∀ (l cur : List UInt8), (44 : UInt8) ∉ l → splitG cur l = [cur ++ l] := by
    intro l
    induction l with
    | nil => intro cur _; simp [splitG]
    | cons c l ih =>
      intro cur hn
      rw [splitG, if_neg (fun e => hn (by simp [e])), ih _ (fun e => hn (by simp [e]))]
      simp
  simpa using h l [] ‹_›
theorem codes_app (proto : Int) (a b : List UInt8) : codesL proto (a ++ 44 :: b) = (codesL proto a && codesL proto b) := by
  unfold codesL
  rw [split_app, List.all_append]
theorem match_app (a b code : List UInt8) : matchL (a ++ 44 :: b) code = (matchL a code || matchL b code) := by
  unfold matchL
  rw [split_app, List.any_append]
theorem codes_nil (proto : Int) : codesL proto [] = false := by
  unfold codesL
  rw [split_one (by simp)]
  simp [patL, numL]
theorem match_nil (code : List UInt8) : matchL [] code = false := by
  unfold matchL
  rw [split_one (by simp)]
  simp [preL]
theorem match_sep (code : List UInt8) : matchL [44] code = false := by
  have := match_app [] [] code
  rw [match_nil] at this
  simpa using this

/-! ### A code -/
theorem num_all {l : List UInt8} (h : numL l = true) : l.all dgC = true := by
  cases l with
  | nil => rfl
  | cons c r =>
    unfold numL at h
    simp only [Bool.and_eq_true] at h
    exact h.2
theorem num_no44 {l : List UInt8} (h : numL l = true) : (44 : UInt8) ∉ l := fun hm => by
  have := List.all_eq_true.1 (num_all h) _ hm
  revert this
  decide
theorem num_codes {p : Int} {l : List UInt8} (hp : p = 1 ∨ p = 3) (h : numL l = true) (h3 : l.length ≤ 3) : codesL p l = true := by
  unfold codesL
  rw [split_one (num_no44 h)]
  simp [patL, hp, h, h3]
theorem num_codes2 {l : List UInt8} (h : numL l = true) : codesL 2 l = false := by
  unfold codesL
  rw [split_one (num_no44 h)]
  cases l with
  | nil => simp [numL] at h
  | cons c r =>
    unfold numL at h
    simp only [Bool.and_eq_true] at h
    have hc : c ≠ 43 ∧ c ≠ 45 ∧ c ≠ 62 := by
      refine ⟨?_, ?_, ?_⟩ <;> (rintro rfl; exact absurd h.1 (by decide))
    simp [patL, hc.1, hc.2.1, hc.2.2]
theorem sign_codes2 {l : List UInt8} (h : l = [43] ∨ l = [45] ∨ l = [62]) : codesL 2 l = true := by
  unfold codesL
  rcases h with rfl | rfl | rfl <;> (rw [split_one (by decide)]; decide)
theorem match_self {c s : List UInt8} (h : (44 : UInt8) ∉ s) (hne : s ≠ []) (hp : s.isPrefixOf c = true) : matchL s c = true := by
  unfold matchL
  rw [split_one h]
  simp [preL, hp, hne]
theorem numbered_some {s : List UInt8} {x : StV} (h : numberedL s = some x) : x.1 = s.take 3 ∧ numL x.1 = true ∧ x.1.length = 3 ∧ x.2.2.length ≤ s.length := by
  unfold numberedL at h
  split at h
  · rename_i h1
    have h2 : x.1 = s.take 3 ∧ x.2.2.length ≤ s.length := by
      cases h3 : s.drop 3 with
      | nil =>
        rw [h3] at h
        simp only [tailV, Option.some.injEq] at h
        subst h
        simp
      | cons b t =>
        have hl : t.length + 1 = s.length - 3 := by
          have := congrArg List.length h3
          simp at this
          omega
        rw [h3] at h
        simp only [tailV] at h
        split at h
        · simp only [Option.some.injEq] at h; subst h; simp; omega
        · split at h
          · simp only [Option.some.injEq] at h; subst h; simp; omega
          · cases h
    refine ⟨h2.1, by rw [h2.1]; exact h1.1, by rw [h2.1, List.length_take]; omega, h2.2⟩
  · cases h
theorem signed_some {s : List UInt8} {x : StV} (h : signedL s = some x) : (x.1 = [43] ∨ x.1 = [45] ∨ x.1 = [62]) ∧ x.2.1 = false := by
  unfold signedL at h
  obtain ⟨c, hc, rfl⟩ := Option.map_eq_some_iff.1 h
  unfold begL at hc
  split at hc
  · injection hc with hc; subst hc; simp
  · split at hc
    · injection hc with hc; subst hc; simp
    · split at hc
      · injection hc with hc; subst hc; simp
      · cases hc
theorem signed_head {s : List UInt8} {x : StV} (h : signedL s = some x) : ∃ c r, s = c :: r ∧ (c = 43 ∨ c = 45) := by
  unfold signedL at h
  obtain ⟨c, hc, rfl⟩ := Option.map_eq_some_iff.1 h
  cases s with
  | nil => rw [cut_nil] at hc; simp [begL] at hc
  | cons a r =>
    refine ⟨a, r, rfl, ?_⟩
    rw [cut_cons] at hc
    split at hc
    · simp [begL] at hc
    · unfold begL at hc
      split at hc
      · rename_i h1; injection h1 with h1 _; exact .inl h1
      · split at hc
        · rename_i h1; injection h1 with h1 _; exact .inr h1
        · split at hc
          · rename_i h1; injection h1 with h1 _; exact .inl h1
          · cases hc
theorem kinds_apart (s : List UInt8) (h1 : (numberedL s).isSome = true) : signedL s = none := by
  cases h2 : signedL s with
  | none => rfl
  | some x =>
    obtain ⟨y, hy⟩ := Option.isSome_iff_exists.1 h1
    obtain ⟨c, r, rfl, hc⟩ := signed_head h2
    have h3 := numbered_some hy
    have h4 := h3.2.1
    rw [h3.1] at h4
    simp only [List.take_succ_cons, numL, Bool.and_eq_true] at h4
    rcases hc with rfl | rfl <;> exact absurd h4.1 (by decide)
/-- The digits of a number from 100 to 999. -/
def dig3 (n : Nat) : List UInt8 := [UInt8.ofNat (48 + n / 100), UInt8.ofNat (48 + n / 10 % 10), UInt8.ofNat (48 + n % 10)]
theorem dig3_num : ∀ k : Fin 500, numL (dig3 (100 + k.val)) = true := by decide +kernel
theorem dig3_len (n : Nat) : (dig3 n).length = 3 := rfl
theorem numbered_code {c : List UInt8} (hc : c.length = 3) (hn : numL c = true) (t : List UInt8) : numberedL (c ++ t) = tailV c t := by
  have e : (c ++ t).take 3 = c := by rw [← hc, List.take_left]
  have e2 : (c ++ t).drop 3 = t := by rw [← hc, List.drop_left]
  unfold numberedL
  rw [e, e2, if_pos ⟨hn, by rw [List.length_append]; omega⟩]
theorem signed_code {c : List UInt8} (hc : c.length = 3) (hn : numL c = true) (t : List UInt8) : signedL (c ++ t) = none := by
  cases h : signedL (c ++ t) with
  | none => rfl
  | some x =>
    obtain ⟨a, r, hr, ha⟩ := signed_head h
    cases c with
    | nil => simp at hc
    | cons b c =>
      injection hr with hr _
      subst hr
      simp only [numL, Bool.and_eq_true] at hn
      rcases ha with rfl | rfl <;> exact absurd hn.1 (by decide)
end Go.Proofs.YtamemddgajmimaaDoor
