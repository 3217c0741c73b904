/- Plain laws of texts: capitals, words, pieces; and of what a server can. -/
import Derived.Test.YtakfkccljkilnaaDoorW
import Derived.Lib.Replace
import Derived.Lib.SplitLaws
set_option linter.unusedVariables false
set_option linter.unusedSimpArgs false
namespace Go.Proofs.YtakfkccljkilnaaDoor
open Go.RowKit Go.Lib

/-! ### Split and ReplaceAll, a step at a time -/
theorem index_pre {s sep : List UInt8} (hs : sep ≠ []) (h : sep.isPrefixOf s = true) : index s sep = ((0 : Nat) : Int) := by
  cases s with
  | nil => cases sep with
    | nil => exact absurd rfl hs
    | cons a r => simp [List.isPrefixOf] at h
  | cons b l => rw [index, if_pos h]; rfl
theorem index_nil {sep : List UInt8} (hs : sep ≠ []) : index [] sep = -1 := by
  cases sep with
  | nil => exact absurd rfl hs
  | cons a r => rfl
theorem index_cons {b : UInt8} {l sep : List UInt8} (h : sep.isPrefixOf (b :: l) = false) : index (b :: l) sep = if index l sep == -1 then -1 else index l sep + 1 := by
  rw [index, h]; simp
theorem split_nil {sep : List UInt8} (hs : sep ≠ []) : split [] sep = [[]] := by
  unfold split
  rw [count_miss (index_nil hs)]
  rfl
theorem split_hit {s sep : List UInt8} (hs : sep ≠ []) (h : sep.isPrefixOf s = true) : split s sep = [] :: split (s.drop sep.length) sep := by
  have hi := index_pre hs h
  unfold split
  rw [count_hit hs hi, Nat.add_comm, splitK, if_neg (by rw [hi]; decide), hi]
  simp
theorem split_cons {b : UInt8} {l sep : List UInt8} (hs : sep ≠ []) (h : sep.isPrefixOf (b :: l) = false) : split (b :: l) sep = (split l sep).modifyHead (b :: ·) := by
  have hi := index_cons h
  by_cases hm : index l sep = -1
  · have hm' : index (b :: l) sep = -1 := by rw [hi, if_pos (by simp [hm])]
    unfold split
    rw [count_miss hm, count_miss hm']
    rfl
  · have hge := index_ge l sep
    obtain ⟨j, hj⟩ : ∃ j : Nat, index l sep = j := ⟨(index l sep).toNat, by omega⟩
    have hix : index (b :: l) sep = ((j + 1 : Nat) : Int) := by rw [hi, if_neg (fun e => hm (beq_iff_eq.1 e)), hj]; omega
    unfold split
    rw [count_hit hs hj, count_hit hs hix, Nat.add_comm, splitK, if_neg (by rw [hix]; intro e; have := beq_iff_eq.1 e; omega), hix]
    rw [show 1 + count (l.drop (j + sep.length)) sep = count (l.drop (j + sep.length)) sep + 1 by omega, splitK, if_neg (by rw [hj]; intro e; have := beq_iff_eq.1 e; omega), hj]
    have e : (((j + 1 : Nat) : Int)).toNat = j + 1 := by omega
    have e2 : ((j : Nat) : Int).toNat = j := by omega
    rw [e, e2]
    simp [List.modifyHead, Nat.add_right_comm]
theorem repl_nil {old new : List UInt8} (hs : old ≠ []) : replaceAll [] old new = [] := by
  unfold replaceAll replace replaceNum
  rw [count_miss (index_nil hs)]
  split <;> rfl
theorem repl_hit {s old new : List UInt8} (hs : old ≠ []) (hne : old ≠ new) (h : old.isPrefixOf s = true) : replaceAll s old new = new ++ replaceAll (s.drop old.length) old new := by
  have hi := index_pre hs h
  have hb : (old == new) = false := beq_eq_false_iff_ne.2 hne
  unfold replaceAll replace replaceNum
  rw [hb, if_neg Bool.false_ne_true, if_neg Bool.false_ne_true, if_pos (.inl (by decide)), if_pos (.inl (by decide)), count_hit hs hi, Nat.add_comm, replaceK_hit _ _ _ _ _ hi]
  simp
theorem repl_cons {b : UInt8} {l old new : List UInt8} (hs : old ≠ []) (hne : old ≠ new) (h : old.isPrefixOf (b :: l) = false) : replaceAll (b :: l) old new = b :: replaceAll l old new := by
  have hi := index_cons h
  have hb : (old == new) = false := beq_eq_false_iff_ne.2 hne
  unfold replaceAll replace replaceNum
  rw [hb, if_neg Bool.false_ne_true, if_neg Bool.false_ne_true, if_pos (.inl (by decide)), if_pos (.inl (by decide))]
  by_cases hm : index l old = -1
  · have hm' : index (b :: l) old = -1 := by rw [hi, if_pos (by simp [hm])]
    rw [count_miss hm, count_miss hm']
    rfl
  · have hge := index_ge l old
    obtain ⟨j, hj⟩ : ∃ j : Nat, index l old = j := ⟨(index l old).toNat, by omega⟩
    have hix : index (b :: l) old = ((j + 1 : Nat) : Int) := by rw [hi, if_neg (fun e => hm (beq_iff_eq.1 e)), hj]; omega
    rw [count_hit hs hj, count_hit hs hix, Nat.add_comm, replaceK_hit _ _ _ _ _ hix]
    rw [show 1 + count (l.drop (j + old.length)) old = count (l.drop (j + old.length)) old + 1 by omega, replaceK_hit _ _ _ _ _ hj]
    simp [Nat.add_right_comm]

/-! ### Capitals -/
def upC (c : UInt8) : UInt8 := if 97 ≤ c.toNat ∧ c.toNat ≤ 122 then c - 32 else c
def upL (l : List UInt8) : List UInt8 := l.map upC
theorem upL_length (l : List UInt8) : (upL l).length = l.length := by simp [upL]
theorem upL_append (a b : List UInt8) : upL (a ++ b) = upL a ++ upL b := by simp [upL]

/-! ### Words -/
def isBl (c : UInt8) : Bool := c == 32 || c == 9
def flush (cur : List UInt8) : List (List UInt8) := if cur = [] then [] else [cur]
/-- The words of what is read and what is left. -/
def wordsG : List UInt8 → List UInt8 → List (List UInt8)
  | cur, [] => flush cur
  | cur, c :: r => if isBl c then flush cur ++ wordsG [] r else wordsG (cur ++ [c]) r
def wordsL (l : List UInt8) : List (List UInt8) := wordsG [] l
def bl1 (c : UInt8) : UInt8 := if c = 9 then 32 else c
theorem repl_tab : ∀ l : List UInt8, replaceAll l [9] [32] = l.map bl1
  | [] => repl_nil (by simp)
  | c :: l => by
    by_cases h : c = 9
    · subst h
      rw [repl_hit (by simp) (by decide) (by simp [List.isPrefixOf])]
      simp [repl_tab l, bl1]
    · rw [repl_cons (by simp) (by decide) (by simp [List.isPrefixOf, Ne.symm h]), repl_tab l]
      simp [bl1, h]
def keep (ls : List (List UInt8)) : List (List UInt8) := ls.filter fun x => !x.isEmpty
theorem split_ne (l sep : List UInt8) : split l sep ≠ [] := by
  unfold split
  cases count l sep with
  | zero => simp [splitK]
  | succ k => rw [splitK]; split <;> simp
theorem words_split : ∀ (l cur : List UInt8), keep ((split (l.map bl1) [32]).modifyHead (cur ++ ·)) = wordsG cur l
  | [], cur => by
    rw [List.map_nil, split_nil (by simp)]
    simp [keep, wordsG, flush]
    cases cur <;> simp
  | c :: l, cur => by
    rw [List.map_cons, wordsG]
    by_cases h : isBl c = true
    · have hb : bl1 c = 32 := by
        simp only [isBl, Bool.or_eq_true, beq_iff_eq] at h
        rcases h with rfl | rfl <;> rfl
      rw [if_pos h, hb, split_hit (by simp) (by simp [List.isPrefixOf])]
      have ih := words_split l []
      simp only [List.nil_append] at ih
      have e : (split (l.map bl1) [32]).modifyHead (fun x => x) = split (l.map bl1) [32] := by
        cases split (l.map bl1) [32] <;> rfl
      rw [e] at ih
      rw [← ih]
      simp only [List.length_cons, List.length_nil, List.drop_succ_cons, List.drop_zero, List.modifyHead_cons, List.append_nil]
      unfold keep flush
      cases cur <;> simp
    · have hb : bl1 c = c := by
        simp only [isBl, Bool.or_eq_true, beq_iff_eq, not_or] at h
        simp [bl1, h.2]
      have h32 : c ≠ 32 := by
        simp only [isBl, Bool.or_eq_true, beq_iff_eq, not_or] at h
        exact h.1
      rw [if_neg h, hb, split_cons (by simp) (by simp [List.isPrefixOf, Ne.symm h32])]
      rw [← words_split l (cur ++ [c])]
      congr 1
      cases split (l.map bl1) [32] <;> simp
theorem keep_words (l : List UInt8) : keep (split (replaceAll l [9] [32]) [32]) = wordsL l := by
  rw [repl_tab, wordsL, ← words_split l []]
  congr 1
  cases split (l.map bl1) [32] <;> simp

theorem wordsG_len : ∀ (l cur : List UInt8), (wordsG cur l).length ≤ l.length + 1
  | [], cur => by
    unfold wordsG flush
    split <;> simp
  | c :: l, cur => by
    rw [wordsG]
    split
    · have := wordsG_len l []
      rw [List.length_append]
      unfold flush
      split <;> simp <;> omega
    · have := wordsG_len l (cur ++ [c])
      simp
      omega
theorem words_len (l : List UInt8) : (wordsL (upL l)).length ≤ l.length + 1 := by
  have := wordsG_len (upL l) []
  rwa [upL_length] at this

/-! ### What a server can -/
/-- A thing: its name, its words. -/
abbrev CapV := List UInt8 × List (List UInt8)
def headCap : List (List UInt8) → Option CapV
  | [] => none
  | w :: ws => some (w, ws)
def capOf (l : List UInt8) : Option CapV := headCap (wordsL (upL l))
def capsL (ls : List (List UInt8)) : List CapV := ls.filterMap capOf
def hasC (c : CapV) (w : List UInt8) (ws : List (List UInt8)) : Bool := c.1 == w && ws.all fun x => c.2.contains x
def hasW (l : List CapV) : List (List UInt8) → Bool
  | [] => false
  | w :: ws => l.any fun c => hasC c w ws
def hasL (l : List CapV) (want : List UInt8) : Bool := hasW l (wordsL (upL want))
end Go.Proofs.YtakfkccljkilnaaDoor
