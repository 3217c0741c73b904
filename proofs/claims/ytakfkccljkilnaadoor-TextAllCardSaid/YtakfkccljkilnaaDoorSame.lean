/- The reference's comparisons: rows of texts. -/
import Derived.Test.YtakfkccljkilnaaDoorTextW2
import Derived.BigQuiet
set_option linter.unusedVariables false
set_option linter.unusedSimpArgs false
namespace Go.Proofs.YtakfkccljkilnaaDoor
open Go.RowKit Go.Shelf

def SameR (w0 : World) (xs ys : List (List UInt8)) (gk : Nat) (i : Value) (wr : World) : Prop :=
  ∃ k m, k ≤ xs.length ∧ gk = xs.length - k ∧ i = .int .i64 (k : Int) ∧ wr = w0.drewN m ∧ xs.take k = ys.take k
set_option maxHeartbeats 1000000 in
set_option maxRecDepth 100000 in
theorem sameD_calls (w : World) (S T : Nat → Prop) (A B : Option Addr) (n c n' c' : Nat) (xs ys : List (List UInt8)) (hx : Reads w S A n (strs xs)) (hy : Reads w T B n' (strs ys)) (hn : n ≤ 140737488355328) (hn' : n' ≤ 140737488355328) :
    Calls Tryd.prog 12 #[.slice A n c, .slice B n' c'] w fun en w' => en = .returned (.bool (decide (xs = ys))) ∧ ∃ m, w' = w.drewN m := by
  have hxl : xs.length = n := by have := hx.1; rwa [strs_length] at this
  have hyl : ys.length = n' := by have := hy.1; rwa [strs_length] at this
  by_cases hne : n = n'
  · subst hne
    have X := Lib.hid hx
    have Y := Lib.hid hy
    have L := Lib.hid (And.intro hxl hyl)
    have hnn : ((n : Int) != (n : Int)) = false := by simp
    clear hx hy hxl hyl
    go_enter Tryd.func12, Tryd.ntmps12
    go_wp2
    go_loopg [5] xs.length (fun gk i wr => SameR w xs ys gk i wr)
    case atStart => exact ⟨0, 0, Nat.zero_le _, rfl, rfl, rfl, rfl⟩
    case round =>
      obtain ⟨k, m, hk, hgk, rfl, rfl, ht⟩ := hrel
      have G := Lib.hid (And.intro hgk ht)
      clear hgk ht
      rcases Nat.lt_or_ge k n with hlt | hge
      · obtain ⟨ad, u, hA, hu, hc1⟩ := X.out.at_ hlt
        obtain ⟨bd, v, hB, hv, hc2⟩ := Y.out.at_ hlt
        subst hA
        subst hB
        have hkx : k < xs.length := by rw [L.out.1]; exact hlt
        have hky : k < ys.length := by rw [L.out.2]; exact hlt
        rw [strs_at _ _ hkx] at hu
        rw [strs_at _ _ hky] at hv
        injection hu with hu
        injection hv with hv
        subst hu
        subst hv
        obtain ⟨p, hp⟩ : ∃ p, xs[k] = p := ⟨_, rfl⟩
        obtain ⟨q, hq⟩ : ∃ q, ys[k] = q := ⟨_, rfl⟩
        rw [hp] at hc1
        rw [hq] at hc2
        have PQ := Lib.hid (And.intro hp hq)
        clear hp hq
        by_cases he : p = q
        · have hb : (p == q) = true := by simp [he]
          have E := Lib.hid he
          clear he
          go_wp2
          go_quiet (fail)
          go_wp2
          go_roundg (n - (k + 1))
          case measure => have := G.out.1; have := L.out.1; omega
          case rel =>
            refine ⟨k + 1, m + nq, by omega, by have := L.out.1; omega, by go_num, by first | rfl | rw [World.drewN_drewN], ?_⟩
            rw [List.take_succ_eq_append_getElem hkx, List.take_succ_eq_append_getElem hky, G.out.2, PQ.out.1, PQ.out.2, E.out]
        · have hb : (p == q) = false := by simp [he]
          have E := Lib.hid he
          clear he
          go_wp2
          go_quiet (fail)
          go_wp2
          go_ret
          refine ⟨?_, by first | exact ⟨_, rfl⟩ | exact ⟨_, World.drewN_drewN _ _ _⟩⟩
          have : ¬ xs = ys := by
            rintro rfl
            exact E.out (PQ.out.1.symm.trans PQ.out.2)
          simp [this]
      · go_wp2
        go_ret
        refine ⟨?_, _, rfl⟩
        have h1 := G.out.2
        rw [List.take_of_length_le (by rw [L.out.1]; exact hge), List.take_of_length_le (by rw [L.out.2]; exact hge)] at h1
        simp [h1]
  · have hnn : ((n : Int) != (n' : Int)) = true := by simp; omega
    have hxy : ¬ xs = ys := by rintro rfl; omega
    have H := Lib.hid hxy
    clear hxy hx hy hxl hyl
    go_enter Tryd.func12, Tryd.ntmps12
    go_wp2
    go_ret
    exact ⟨by simp [H.out], 0, rfl⟩

theorem same_calls (w : World) (S T : Nat → Prop) (A B : Option Addr) (n c n' c' : Nat) (xs ys : List (List UInt8)) (hx : Reads w S A n (strs xs)) (hy : Reads w T B n' (strs ys)) (hn : n ≤ 140737488355328) (hn' : n' ≤ 140737488355328) :
    Calls Tryd.prog 12 #[.slice A n c, .slice B n' c'] w fun en w' => en = .returned (.bool (decide (xs = ys))) ∧ Kept w w' NoB :=
  (sameD_calls w S T A B n c n' c' xs ys hx hy hn hn').mono fun en w' ⟨h1, m, h2⟩ => ⟨h1, by rw [h2]; exact (Kept.refl _ _).drewN m⟩

end Go.Proofs.YtakfkccljkilnaaDoor
