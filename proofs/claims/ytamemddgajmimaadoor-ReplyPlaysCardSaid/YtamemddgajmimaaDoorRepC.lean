/- Replies: a line more, in any state without a body: what it computes. -/
import Derived.Test.YtamemddgajmimaaDoorRepL
set_option linter.unusedVariables false
set_option linter.unusedSimpArgs false
namespace Go.Proofs.YtamemddgajmimaaDoor
open Go.RowKit Go.Shelf

theorem ob_nil {k : Nat} : ¬ OB (Value.slice none 0 0) k := fun h => by simp [OB, Value.ownBlock] at h
theorem moreF1 (g : Nat) : moreF 1 g = .func (.func 24) #[.pointer (some ⟨g, 0, none⟩)] #[] := rfl
theorem moreF3 (g : Nat) : moreF 3 g = .func (.func 25) #[.pointer (some ⟨g, 0, none⟩)] #[] := rfl
theorem stepM1 {c s c' t : List UInt8} {m : Bool} {ls : List (List UInt8)} (hs : statusL 1 s = some (c', m, t)) (hc : c' = c) : stepM 1 (some (c, ls)) s = if 20 ≤ ls.length then (none, 72, none) else if m then (none, 0, some (c, ls ++ [t])) else (some (c, ls ++ [t]), 0, none) := by
  simp [stepM, hs, hc]
theorem stepM1_bad {c s : List UInt8} {ls : List (List UInt8)} (hs : ∀ m t, statusL 1 s ≠ some (c, m, t)) : stepM 1 (some (c, ls)) s = (none, 63, none) := by
  unfold stepM
  cases h : statusL 1 s with
  | none => simp
  | some x =>
    obtain ⟨c', m, t⟩ := x
    have : c' ≠ c := fun e => hs m t (by rw [h, e])
    simp [this]
theorem stepM3 {c s : List UInt8} {ls : List (List UInt8)} : stepM 3 (some (c, ls)) s = match lastF 3 c s with
      | some t => if 20 ≤ ls.length then (none, 72, none) else (some (c, ls ++ [t]), 0, none)
      | none => if 20 ≤ ls.length then (none, 72, none) else (none, 0, some (c, ls ++ [s])) := by
  simp [stepM]
  cases lastF 3 c s <;> rfl
theorem line_calls (w : World) (g : Nat) (proto : Int) (st : Option Rp) (v : Value) (s : List UInt8) (body : Bool) (h : MkSt w g proto st v) (hl : s.length ≤ 1099511627) (hm : MaxI w) (hbody : ¬ (proto = 2 ∧ body = true)) :
    Calls Tryd.prog 12 #[.pointer (some ⟨g, 0, none⟩), .string (strB s), .bool body] w (LinePost w g proto v (stepM proto st s)) := by
  cases st with
  | none =>
    obtain ⟨hb, rfl⟩ := h
    cases hs : statusL proto s with
    | none =>
      have e : stepM proto none s = (none, 63, none) := by simp [stepM, hs]
      rw [e]
      refine line_idle_stop w g proto s body _ false 63 [] [] .nilFunc hb (fun k hk => absurd hk ob_nil) (by decide) fun W hk hbW => ?_
      refine (begin_bad W g proto s body _ _ _ _ _ hbW hl (hm.kept0 hk) hs).mono ?_
      rintro en w' ⟨rfl, hk'⟩
      exact ⟨.slice none 0 0, rfl, hbW.kept0 hk', Row.nil _ _ _, hk'.of_no, fun k hk => absurd hk ob_nil⟩
    | some x =>
      obtain ⟨c, m, t⟩ := x
      have hcall : ∀ W, Kept w W NoB → Blk W g 51 #[.int .i64 proto, .string ByteArray.empty, .slice none 0 0, .slice none 0 0, .pointer none, .nilFunc] → Calls Tryd.prog 20 #[.pointer (some ⟨g, 0, none⟩), .string (strB s), .bool body] W (TakePost W g proto (.slice none 0 0) (!m) 0 c [t] (if m then moreF proto g else .nilFunc)) := by
        intro W hk hbW
        refine (begin_ok W g proto c s t m body _ _ _ hbW hl (hm.kept0 hk) hs hbody _ rfl).mono ?_
        rintro en w' ⟨v', rfl, hb', hr', hk', ho'⟩
        exact ⟨v', rfl, hb', hr', hk'.mono fun _ h => .inl h, fun k hk => .inr (ho' k hk)⟩
      cases m with
      | true =>
        have e : stepM proto none s = (none, 0, some (c, [t])) := by simp [stepM, hs]
        rw [e]
        exact line_idle_go w g proto s body _ c [t] _ hb (fun k hk => absurd hk ob_nil) (status_more hs) (by simp) rfl hcall
      | false =>
        have e : stepM proto none s = (some (c, [t]), 0, none) := by simp [stepM, hs]
        rw [e]
        exact line_idle_whole w g proto s body _ c [t] _ hb (fun k hk => absurd hk ob_nil) hcall
  | some q =>
    obtain ⟨c, ls⟩ := q
    obtain ⟨hp, hll, hb, hr⟩ := h
    have hv : ∀ k, OB v k → k < w.heap.size := fun k hk => hr.lt hk
    rcases hp with rfl | rfl
    · rw [moreF1] at hb
      by_cases hbad : ∀ m t, statusL 1 s ≠ some (c, m, t)
      · rw [stepM1_bad hbad]
        refine line_strict_stop w g 1 s body v c false 63 c ls (.func (.func 24) #[.pointer (some ⟨g, 0, none⟩)] #[]) hb hv (by decide) fun W hk hbW => ?_
        refine (strict_bad W g 1 c s v _ _ _ hbW hl (hm.kept0 hk) hbad).mono ?_
        rintro en w' ⟨rfl, hk'⟩
        exact ⟨v, rfl, hbW.kept0 hk', (hr.kept0 hk).kept0 hk', hk'.of_no, fun k hk => .inl hk⟩
      · have hex : ∃ m t, statusL 1 s = some (c, m, t) := Classical.byContradiction fun h => hbad fun m t e => h ⟨m, t, e⟩
        obtain ⟨m, t, hs⟩ := hex
        rw [stepM1 hs rfl]
        have hcall : ∀ W, Kept w W NoB → Blk W g 51 #[.int .i64 1, .string (strB c), v, .slice none 0 0, .pointer none, .func (.func 24) #[.pointer (some ⟨g, 0, none⟩)] #[]] → Calls Tryd.prog 24 #[.pointer (some ⟨g, 0, none⟩), .string (strB s)] W (TakePost W g 1 v (!m) (if 20 ≤ ls.length then 72 else 0) c (if 20 ≤ ls.length then ls else ls ++ [t]) (.func (.func 24) #[.pointer (some ⟨g, 0, none⟩)] #[])) := by
          intro W hk hbW
          exact (strict_ok W g 1 c s t m v _ _ _ ls hbW (hr.kept0 hk) hll hl (hm.kept0 hk) hs).mono fun _ _ h => h
        by_cases h20 : 20 ≤ ls.length
        · rw [if_pos h20]
          simp only [if_pos h20] at hcall
          exact line_strict_stop w g 1 s body v c (!m) 72 c ls _ hb hv (by decide) hcall
        · rw [if_neg h20]
          simp only [if_neg h20] at hcall
          cases m with
          | true => exact line_strict_go w g 1 s body v c c (ls ++ [t]) _ hb hv (.inl rfl) (by simp; omega) rfl hcall
          | false => exact line_strict_whole w g 1 s body v c c (ls ++ [t]) _ hb hv hcall
    · rw [moreF3] at hb
      rw [stepM3]
      cases hla : lastF 3 c s with
      | some t =>
        have hcall : ∀ W, Kept w W NoB → Blk W g 51 #[.int .i64 3, .string (strB c), v, .slice none 0 0, .pointer none, .func (.func 25) #[.pointer (some ⟨g, 0, none⟩)] #[]] → Calls Tryd.prog 25 #[.pointer (some ⟨g, 0, none⟩), .string (strB s)] W (TakePost W g 3 v true (if 20 ≤ ls.length then 72 else 0) c (if 20 ≤ ls.length then ls else ls ++ [t]) (.func (.func 25) #[.pointer (some ⟨g, 0, none⟩)] #[])) := by
          intro W hk hbW
          exact (loose_last W g 3 c s t v _ _ _ ls hbW (hr.kept0 hk) hll hl (hm.kept0 hk) (lastF_some hla)).mono fun _ _ h => h
        by_cases h20 : 20 ≤ ls.length
        · simp only [if_pos h20] at hcall ⊢
          exact line_loose_stop w g 3 s body v c true 72 c ls _ hb hv (by decide) hcall
        · simp only [if_neg h20] at hcall ⊢
          exact line_loose_whole w g 3 s body v c c (ls ++ [t]) _ hb hv hcall
      | none =>
        have hcall : ∀ W, Kept w W NoB → Blk W g 51 #[.int .i64 3, .string (strB c), v, .slice none 0 0, .pointer none, .func (.func 25) #[.pointer (some ⟨g, 0, none⟩)] #[]] → Calls Tryd.prog 25 #[.pointer (some ⟨g, 0, none⟩), .string (strB s)] W (TakePost W g 3 v false (if 20 ≤ ls.length then 72 else 0) c (if 20 ≤ ls.length then ls else ls ++ [s]) (.func (.func 25) #[.pointer (some ⟨g, 0, none⟩)] #[])) := by
          intro W hk hbW
          exact (loose_more W g 3 c s v _ _ _ ls hbW (hr.kept0 hk) hll hl (hm.kept0 hk) hla).mono fun _ _ h => h
        by_cases h20 : 20 ≤ ls.length
        · simp only [if_pos h20] at hcall ⊢
          exact line_loose_stop w g 3 s body v c false 72 c ls _ hb hv (by decide) hcall
        · simp only [if_neg h20] at hcall ⊢
          exact line_loose_go w g 3 s body v c c (ls ++ [s]) _ hb hv (.inr rfl) (by simp; omega) rfl hcall
end Go.Proofs.YtamemddgajmimaaDoor
