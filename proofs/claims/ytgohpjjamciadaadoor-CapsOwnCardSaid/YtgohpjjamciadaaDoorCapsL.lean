/- caps: the lines that count. -/
import Derived.Test.YtgohpjjamciadaaDoorTextR
import Derived.StillTailTactics
set_option linter.unusedVariables false
set_option linter.unusedSimpArgs false
namespace Go.Proofs.YtgohpjjamciadaaDoor
open Go.RowKit Go.Shelf

/-- The lines of a reply that count. -/
def linesL (proto : Int) (ls : List (List UInt8)) (body : List UInt8) : List (List UInt8) :=
  if proto = 1 ∧ 1 < ls.length then ls.drop 1 else if proto = 3 ∧ 2 < ls.length then (ls.take (ls.length - 1)).drop 1 else if proto = 2 then Lib.split body [13, 10] else []
theorem strs_take (ls : List (List UInt8)) (k : Nat) : (strs ls).take k = strs (ls.take k) := by simp [strs, List.map_take]
theorem strs_drop (ls : List (List UInt8)) (k : Nat) : (strs ls).drop k = strs (ls.drop k) := by simp [strs, List.map_drop]
theorem info_strI : ∃ i, Tryd.prog.info? 9 = some i ∧ i.size = 1 := by
  have : (Tryd.prog.info? 9).map (·.size) = some 1 := by kernel_rfl
  obtain ⟨i, h1, h2⟩ := Option.map_eq_some_iff.1 this
  exact ⟨i, h1, h2⟩

set_option maxHeartbeats 1000000 in
set_option maxRecDepth 100000 in
theorem lines_calls (w : World) (proto : Int) (code : Value) (S T : Nat → Prop) (A B : Option Addr) (n c m d : Nat) (ls : List (List UInt8)) (body : List UInt8)
    (hA : Reads w S A n (strs ls)) (hnc : n ≤ c) (hB : Reads w T B m (b8s body)) (hbl : body.length ≤ 1099511627) (hn : n ≤ 1099511627) (hm : MaxI w) :
    Calls Tryd.prog 20 #[.int .i64 proto, .agg #[code, .slice A n c, .slice B m d]] w fun en w' =>
      ∃ C k e, en = .returned (.slice C k e) ∧ k ≤ e ∧ Reads w' (fun b => S b ∨ w.heap.size ≤ b) C k (strs (linesL proto ls body)) ∧ Kept w w' NoB := by
  obtain ⟨hi0, hz1, hz0⟩ := info_strI
  have hl : ls.length = n := by have := hA.1; rwa [strs_length] at this
  have hAS : Reads w (fun b => S b ∨ w.heap.size ≤ b) A n (strs ls) := hA.mono fun _ _ h => .inl h
  go_enter Tryd.func20, Tryd.ntmps20
  by_cases h1 : proto = 1
  · subst h1
    by_cases h2 : 1 < ls.length
    · have e : linesL 1 ls body = ls.drop 1 := by unfold linesL; rw [if_pos ⟨rfl, h2⟩]
      have t1 : (1 : Int) < (n : Int) := by omega
      go_wp2_with fail
      go_ret
      refine ⟨_, _, _, rfl, by omega, ?_, (Kept.refl _ _).alloc _⟩
      have := (hAS.drop (k := 1) (cap := c) (by omega) hnc).alloc (.cells #[code, .slice A n c, .slice B m d] 25)
      rw [strs_drop, if_neg (by omega)] at this
      rw [e]
      exact this
    · have e : linesL 1 ls body = [] := by unfold linesL; rw [if_neg (by omega), if_neg (by omega), if_neg (by omega)]
      have t1 : ¬ (1 : Int) < (n : Int) := by omega
      go_wp2_with fail
      go_ret
      exact ⟨_, _, _, rfl, by omega, by first | exact Reads.nil _ _ _ | (rw [e]; exact Reads.nil _ _ _), (Kept.refl _ _).alloc _⟩
  · have n1 : (proto == 1) = false := by simpa using h1
    by_cases h3 : proto = 3
    · subst h3
      by_cases h2 : 2 < ls.length
      · have e : linesL 3 ls body = (ls.take (ls.length - 1)).drop 1 := by unfold linesL; rw [if_neg (by omega), if_pos ⟨rfl, h2⟩]
        have t1 : (2 : Int) < (n : Int) := by omega
        go_wp2_with fail
        go_ret
        refine ⟨_, _, _, rfl, ?_, ?_, (Kept.refl _ _).alloc _⟩
        · omega
        · have := ((hAS.take (k := n - 1) (by omega)).drop (k := 1) (cap := c) (by omega) (by omega)).alloc (.cells #[code, .slice A n c, .slice B m d] 25)
          rw [strs_take, strs_drop, if_neg (by omega)] at this
          rw [e, hl]
          exact this
      · have e : linesL 3 ls body = [] := by unfold linesL; rw [if_neg (by omega), if_neg (by omega), if_neg (by omega)]
        have t1 : ¬ (2 : Int) < (n : Int) := by omega
        go_wp2_with fail
        go_ret
        exact ⟨_, _, _, rfl, by omega, by first | exact Reads.nil _ _ _ | (rw [e]; exact Reads.nil _ _ _), (Kept.refl _ _).alloc _⟩
    · have n3 : (proto == 3) = false := by simpa using h3
      by_cases h2 : proto = 2
      · subst h2
        have e : linesL 2 ls body = Lib.split body [13, 10] := by unfold linesL; rw [if_neg (by omega), if_neg (by omega), if_pos rfl]
        have hcv := (hB.alloc (.cells #[code, .slice A n c, .slice B m d] 25)).string 23 5 9 Tryd.underlying23 Tryd.underlying5 Tryd.underlying9 d
        go_wp2_with fail
        refine (split_calls _ body [13, 10] hbl (by decide) (hm.kept0 ((Kept.refl _ _).alloc _)) rfl).mono ?_
        rintro en w2 ⟨rfl, hw2⟩
        go_wp2_with fail
        go_ret
        refine ⟨_, _, _, rfl, Nat.le_refl _, ?_, ((Kept.refl _ _).alloc _).alloc _⟩
        have := Reads.lit (w.alloc (.cells #[code, .slice A n c, .slice B m d] 25)) 9 (strs (Lib.split body [13, 10])) _ rfl (0, 0)
        rw [strs_length, World.size_alloc] at this
        rw [e]
        exact this.mono fun b _ hb => .inr (by rw [hb]; exact Nat.le_succ _)
      · have e : linesL proto ls body = [] := by unfold linesL; rw [if_neg (by omega), if_neg (by omega), if_neg (by omega)]
        have n2 : (proto == 2) = false := by simpa using h2
        go_wp2_with fail
        go_ret
        exact ⟨_, _, _, rfl, by omega, by first | exact Reads.nil _ _ _ | (rw [e]; exact Reads.nil _ _ _), (Kept.refl _ _).alloc _⟩
end Go.Proofs.YtgohpjjamciadaaDoor
