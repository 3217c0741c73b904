/- Texts: what can be printed, what stands in a text: plain laws, and laws of a range over a string. -/
import Derived.Test.YtakfkccljkilnaaDoorCapsP
import Derived.Laws.RangeString
import Derived.Lib.IndexMore
set_option linter.unusedVariables false
set_option linter.unusedSimpArgs false
namespace Go.Proofs.YtakfkccljkilnaaDoor
open Go.RowKit

/-! ### A range over a string: the next rune, whatever the bytes are -/
theorem run_next_any {P : Program} (w : World) (s : ByteArray) (pos : Nat) (ty : TypeId) (h : pos < s.size) :
    (Instr.next (.pointer (some ⟨w.heap.size, 0, none⟩)) true ty).run P (w.iter s pos) =
      .ok (.tuple #[.bool true, .int .i64 pos, .int .i32 (Utf8.decode s pos).1]) (w.iter s (pos + (Utf8.decode s pos).2)) := by
  simp only [Instr.next, getObj, setObj, Sem.run_bind, Sem.run, World.iter_heap, Result.andThen, h, if_true, World.iter_set]
  simp [goInt, Sem.run, World.iter_heap, World.iter_set]
theorem decode_big (s : ByteArray) (pos : Nat) (h : pos < s.size) (hb : 128 ≤ (s[pos]'h).toNat) : 128 ≤ (Utf8.decode s pos).1 := by
  have e : s.get! (pos + 0) = s[pos]'h := by
    show s.get! pos = _
    simp [ByteArray.get!, getElem!_pos, h]
    rfl
  have hr : 128 ≤ Utf8.runeError := by decide
  unfold Utf8.decode
  simp only [e]
  rw [if_neg (by omega)]
  split
  · split
    · assumption
    · exact hr
  · split
    · split
      · rename_i h1
        simp only [Bool.and_eq_true, decide_eq_true_eq] at h1
        show 128 ≤ _
        omega
      · exact hr
    · split
      · split
        · rename_i h1
          simp only [Bool.and_eq_true, decide_eq_true_eq] at h1
          show 128 ≤ _
          omega
        · exact hr
      · exact hr

/-! ### What can be printed -/
def prC (c : UInt8) : Bool := decide (32 ≤ c.toNat ∧ c.toNat ≤ 126)
def prL (l : List UInt8) : Bool := l.all prC
theorem prL_append (a b : List UInt8) : prL (a ++ b) = (prL a && prL b) := by simp [prL]
theorem prL_infix {a b : List UInt8} (h : a <:+: b) (hb : prL b = true) : prL a = true := by
  unfold prL at *
  rw [List.all_eq_true] at *
  exact fun x hx => hb x (h.subset hx)

/-! ### What stands in a text -/
theorem contains_iff (s sub : List UInt8) : Lib.contains s sub = true ↔ sub <:+: s := by
  unfold Lib.contains
  rw [decide_eq_true_iff]
  rcases Lib.index_spec s sub with ⟨h1, h2⟩ | ⟨i, h1, h2, h3, _⟩
  · rw [h1]
    refine ⟨fun h => absurd h (by decide), fun h => ?_⟩
    obtain ⟨a, b, hab⟩ := h
    have := h2 a.length (by rw [← hab]; simp only [List.length_append]; omega)
    unfold Lib.occAt at this
    rw [← hab, List.append_assoc, List.drop_left] at this
    have h3 : sub.isPrefixOf (sub ++ b) = true := List.isPrefixOf_iff_prefix.2 (List.prefix_append _ _)
    rw [h3] at this
    cases this
  · rw [h1]
    refine ⟨fun _ => ?_, fun _ => Int.natCast_nonneg _⟩
    unfold Lib.occAt at h3
    exact (List.isPrefixOf_iff_prefix.1 h3).isInfix.trans (List.drop_suffix _ _).isInfix
theorem contains_true {s sub : List UInt8} (h : sub <:+: s) : Lib.contains s sub = true := (contains_iff s sub).2 h
theorem contains_false {s sub : List UInt8} (h : ¬ sub <:+: s) : Lib.contains s sub = false := Bool.eq_false_iff.2 fun e => h ((contains_iff s sub).1 e)
theorem upL_infix {a b : List UInt8} (h : a <:+: b) : upL a <:+: upL b := by
  obtain ⟨x, y, e⟩ := h
  exact ⟨upL x, upL y, by rw [← e, upL_append, upL_append]⟩
theorem upC_up2 (c : UInt8) : upC (upC c) = upC c := by
  by_cases h : 97 ≤ c.toNat ∧ c.toNat ≤ 122
  · have h3 : (c - 32).toNat = c.toNat - 32 := by
      rw [UInt8.toNat_sub_of_le _ _ (by rw [UInt8.le_iff_toNat_le]; show 32 ≤ _; omega)]
      rfl
    have e : upC c = c - 32 := if_pos h
    rw [e]
    exact if_neg (by rw [h3]; omega)
  · have e : upC c = c := if_neg h
    rw [e, e]
theorem upL_up2 (l : List UInt8) : upL (upL l) = upL l := by
  unfold upL
  rw [List.map_map]
  exact List.map_congr_left fun c _ => upC_up2 c
def hasTx (s part : List UInt8) : Bool := Lib.contains (upL s) (upL part)

/-! ### Words: more -/
theorem wordsG_glue : ∀ (a cur : List UInt8) (g : UInt8) (b : List UInt8), isBl g = true → wordsG cur (a ++ g :: b) = wordsG cur a ++ wordsG [] b
  | [], cur, g, b, hg => by
    show (if isBl g = true then flush cur ++ wordsG [] b else wordsG (cur ++ [g]) b) = flush cur ++ wordsG [] b
    rw [if_pos hg]
  | c :: a, cur, g, b, hg => by
    rw [List.cons_append, wordsG, wordsG]
    split
    · rw [wordsG_glue a [] g b hg, List.append_assoc]
    · exact wordsG_glue a (cur ++ [c]) g b hg
theorem words_glue (a b : List UInt8) {g : UInt8} (hg : isBl g = true) : wordsL (a ++ g :: b) = wordsL a ++ wordsL b := wordsG_glue a [] g b hg
theorem flush_flat (cur : List UInt8) : (flush cur).flatten = cur := by
  unfold flush
  split
  · rename_i h
    rw [h]
    rfl
  · simp
theorem wordsG_flat : ∀ (l cur : List UInt8), (wordsG cur l).flatten = cur ++ l.filter fun c => !isBl c
  | [], cur => by rw [wordsG, flush_flat]; simp
  | c :: l, cur => by
    rw [wordsG]
    split
    · rename_i h
      rw [List.flatten_append, flush_flat, wordsG_flat l []]
      simp [h]
    · rename_i h
      rw [wordsG_flat l (cur ++ [c])]
      simp [h]
theorem words_flat (l : List UInt8) : (wordsL l).flatten = l.filter fun c => !isBl c := wordsG_flat l []
theorem wordsG_fine : ∀ (l cur : List UInt8), (∀ x ∈ cur, isBl x = false) → ∀ w ∈ wordsG cur l, w ≠ [] ∧ ∀ x ∈ w, isBl x = false
  | [], cur, hc, w, hw => by
    rw [wordsG] at hw
    unfold flush at hw
    split at hw
    · cases hw
    · rename_i hne
      rw [List.mem_singleton.1 hw]
      exact ⟨hne, hc⟩
  | c :: l, cur, hc, w, hw => by
    rw [wordsG] at hw
    split at hw
    · rw [List.mem_append] at hw
      rcases hw with hw | hw
      · unfold flush at hw
        split at hw
        · cases hw
        · rename_i hne
          rw [List.mem_singleton.1 hw]
          exact ⟨hne, hc⟩
      · exact wordsG_fine l [] (fun x hx => by cases hx) w hw
    · rename_i h
      exact wordsG_fine l (cur ++ [c]) (fun x hx => by
        rcases List.mem_append.1 hx with h1 | h1
        · exact hc x h1
        · rw [List.mem_singleton.1 h1]; simpa using h) w hw
theorem words_fine (l : List UInt8) : ∀ w ∈ wordsL l, w ≠ [] ∧ ∀ x ∈ w, isBl x = false := wordsG_fine l [] (fun x hx => by cases hx)
/-- Words with a blank between. -/
def joinB : List (List UInt8) → List UInt8
  | [] => []
  | [w] => w
  | w :: ws => w ++ 32 :: joinB ws
theorem wordsG_none : ∀ (w cur : List UInt8), (∀ x ∈ w, isBl x = false) → wordsG cur w = flush (cur ++ w)
  | [], cur, _ => by rw [wordsG, List.append_nil]
  | c :: w, cur, h => by
    rw [wordsG, h c (by simp), if_neg Bool.false_ne_true, wordsG_none w (cur ++ [c]) (fun x hx => h x (by simp [hx]))]
    simp
theorem words_word {w : List UInt8} (hne : w ≠ []) (h : ∀ x ∈ w, isBl x = false) : wordsL w = [w] := by
  rw [wordsL, wordsG_none w [] h, List.nil_append, flush, if_neg hne]
theorem words_join : ∀ ws : List (List UInt8), (∀ w ∈ ws, w ≠ [] ∧ ∀ x ∈ w, isBl x = false) → wordsL (joinB ws) = ws
  | [], _ => rfl
  | [w], h => words_word (h w (by simp)).1 (h w (by simp)).2
  | w :: v :: ws, h => by
    show wordsL (w ++ 32 :: joinB (v :: ws)) = _
    rw [words_glue _ _ (by decide), words_word (h w (by simp)).1 (h w (by simp)).2, words_join (v :: ws) (fun x hx => h x (by simp [hx]))]
    rfl
theorem joinB_snoc : ∀ (ws : List (List UInt8)) (w : List UInt8), ws ≠ [] → joinB (ws ++ [w]) = joinB ws ++ 32 :: w
  | [], _, h => absurd rfl h
  | [v], w, _ => rfl
  | v :: u :: ws, w, _ => by
    show v ++ 32 :: joinB ((u :: ws) ++ [w]) = _
    rw [joinB_snoc (u :: ws) w (by simp)]
    show _ = (v ++ 32 :: joinB (u :: ws)) ++ 32 :: w
    simp
end Go.Proofs.YtakfkccljkilnaaDoor
