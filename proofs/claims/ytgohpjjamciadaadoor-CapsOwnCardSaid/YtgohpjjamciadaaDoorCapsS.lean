/- The reference's comparisons: rows of texts, rows of things. -/
import Derived.Test.YtgohpjjamciadaaDoorCapsO
set_option linter.unusedVariables false
set_option linter.unusedSimpArgs false
namespace Go.Proofs.YtgohpjjamciadaaDoor
open Go.RowKit Go.Shelf

def SameR (w0 : World) (xs ys : List (List UInt8)) (gk : Nat) (i : Value) (wr : World) : Prop :=
  ∃ k m, k ≤ xs.length ∧ gk = xs.length - k ∧ i = .int .i64 (k : Int) ∧ wr = w0.drewN m ∧ xs.take k = ys.take k
set_option maxHeartbeats 1000000 in
set_option maxRecDepth 100000 in
theorem sameD_calls (w : World) (S T : Nat → Prop) (A B : Option Addr) (n c n' c' : Nat) (xs ys : List (List UInt8)) (hx : Reads w S A n (strs xs)) (hy : Reads w T B n' (strs ys)) (hn : n ≤ 140737488355328) (hn' : n' ≤ 140737488355328) :
    Calls Tryd.prog 24 #[.slice A n c, .slice B n' c'] w fun en w' => en = .returned (.bool (decide (xs = ys))) ∧ ∃ m, w' = w.drewN m := by
  have hxl : xs.length = n := by have := hx.1; rwa [strs_length] at this
  have hyl : ys.length = n' := by have := hy.1; rwa [strs_length] at this
  by_cases hne : n = n'
  · subst hne
    have X := Lib.hid hx
    have Y := Lib.hid hy
    have L := Lib.hid (And.intro hxl hyl)
    have hnn : ((n : Int) != (n : Int)) = false := by simp
    clear hx hy hxl hyl
    go_enter Tryd.func24, Tryd.ntmps24
    go_wp2
    go_loopg [5] xs.length (fun gk i wr => SameR w xs ys gk i wr)
    case atStart => exact ⟨0, 0, Nat.zero_le _, rfl, rfl, rfl, rfl⟩
    case round =>
      obtain ⟨k, m, hk, hgk, rfl, rfl, ht⟩ := hrel
      have G := Lib.hid (And.intro hgk ht)
      clear hgk ht
      rcases Nat.lt_or_ge k n with hlt | hge
      · obtain ⟨ad, u, hA, hu, hc1⟩ := X.out.at_ hlt
        obtain ⟨bd, v, hB, hv, hc2⟩ := Y.out.at_ hlt
        subst hA
        subst hB
        have hkx : k < xs.length := by rw [L.out.1]; exact hlt
        have hky : k < ys.length := by rw [L.out.2]; exact hlt
        rw [strs_at _ _ hkx] at hu
        rw [strs_at _ _ hky] at hv
        injection hu with hu
        injection hv with hv
        subst hu
        subst hv
        obtain ⟨p, hp⟩ : ∃ p, xs[k] = p := ⟨_, rfl⟩
        obtain ⟨q, hq⟩ : ∃ q, ys[k] = q := ⟨_, rfl⟩
        rw [hp] at hc1
        rw [hq] at hc2
        have PQ := Lib.hid (And.intro hp hq)
        clear hp hq
        by_cases he : p = q
        · have hb : (p == q) = true := by simp [he]
          have E := Lib.hid he
          clear he
          go_wp2
          go_quiet (fail)
          go_wp2
          go_roundg (n - (k + 1))
          case measure => have := G.out.1; have := L.out.1; omega
          case rel =>
            refine ⟨k + 1, m + nq, by omega, by have := L.out.1; omega, by go_num, by first | rfl | rw [World.drewN_drewN], ?_⟩
            rw [List.take_succ_eq_append_getElem hkx, List.take_succ_eq_append_getElem hky, G.out.2, PQ.out.1, PQ.out.2, E.out]
        · have hb : (p == q) = false := by simp [he]
          have E := Lib.hid he
          clear he
          go_wp2
          go_quiet (fail)
          go_wp2
          go_ret
          refine ⟨?_, by first | exact ⟨_, rfl⟩ | exact ⟨_, World.drewN_drewN _ _ _⟩⟩
          have : ¬ xs = ys := by
            rintro rfl
            exact E.out (PQ.out.1.symm.trans PQ.out.2)
          simp [this]
      · go_wp2
        go_ret
        refine ⟨?_, _, rfl⟩
        have h1 := G.out.2
        rw [List.take_of_length_le (by rw [L.out.1]; exact hge), List.take_of_length_le (by rw [L.out.2]; exact hge)] at h1
        simp [h1]
  · have hnn : ((n : Int) != (n' : Int)) = true := by simp; omega
    have hxy : ¬ xs = ys := by rintro rfl; omega
    have H := Lib.hid hxy
    clear hxy hx hy hxl hyl
    go_enter Tryd.func24, Tryd.ntmps24
    go_wp2
    go_ret
    exact ⟨by simp [H.out], 0, rfl⟩

theorem same_calls (w : World) (S T : Nat → Prop) (A B : Option Addr) (n c n' c' : Nat) (xs ys : List (List UInt8)) (hx : Reads w S A n (strs xs)) (hy : Reads w T B n' (strs ys)) (hn : n ≤ 140737488355328) (hn' : n' ≤ 140737488355328) :
    Calls Tryd.prog 24 #[.slice A n c, .slice B n' c'] w fun en w' => en = .returned (.bool (decide (xs = ys))) ∧ Kept w w' NoB :=
  (sameD_calls w S T A B n c n' c' xs ys hx hy hn hn').mono fun en w' ⟨h1, m, h2⟩ => ⟨h1, by rw [h2]; exact (Kept.refl _ _).drewN m⟩

theorem CapsR.drewN {w : World} {S : Nat → Prop} {A : Option Addr} {n : Nat} {l : List CapV} (h : CapsR w S A n l) (m : Nat) : CapsR (w.drewN m) S A n l := h.kept0 ((Kept.refl _ _).drewN m)
def SameC (w0 : World) (xs ys : List CapV) (gk : Nat) (i : Value) (wr : World) : Prop :=
  ∃ k m, k ≤ xs.length ∧ gk = xs.length - k ∧ i = .int .i64 (k : Int) ∧ wr = w0.drewN m ∧ xs.take k = ys.take k
set_option maxHeartbeats 2000000 in
set_option maxRecDepth 100000 in
theorem sameC_calls (w : World) (S T : Nat → Prop) (A B : Option Addr) (n c n' c' : Nat) (xs ys : List CapV) (hx : CapsR w S A n xs) (hy : CapsR w T B n' ys) (hn : n ≤ 140737488355328) (hn' : n' ≤ 140737488355328)
    (hxs : ∀ x ∈ xs, x.2.length ≤ 1099511627776) (hys : ∀ x ∈ ys, x.2.length ≤ 1099511627776) :
    Calls Tryd.prog 13 #[.slice A n c, .slice B n' c'] w fun en w' => en = .returned (.bool (decide (xs = ys))) ∧ ∃ m, w' = w.drewN m := by
  have hxl : xs.length = n := hx.1
  have hyl : ys.length = n' := hy.1
  by_cases hne : n = n'
  · subst hne
    have X := Lib.hid hx
    have Y := Lib.hid hy
    have L := Lib.hid (And.intro hxl hyl)
    have hnn : ((n : Int) != (n : Int)) = false := by simp
    clear hx hy hxl hyl
    go_enter Tryd.func13, Tryd.ntmps13
    go_wp2
    go_loopg [5, 6] xs.length (fun gk i v6 wr => SameC w xs ys gk i wr)
    case atStart => exact ⟨0, 0, Nat.zero_le _, rfl, rfl, rfl, rfl⟩
    case round =>
      obtain ⟨k, m, hk, hgk, rfl, rfl, ht⟩ := hrel
      have G := Lib.hid (And.intro hgk ht)
      clear hgk ht
      rcases Nat.lt_or_ge k n with hlt | hge
      · have hkx : k < xs.length := by rw [L.out.1]; exact hlt
        have hky : k < ys.length := by rw [L.out.2]; exact hlt
        obtain ⟨ad, X1, x1, xc1, hA, had, hc0, hc1, hxc, hX1⟩ := X.out.at_ hlt hkx
        obtain ⟨bd, Y1, y1, yc1, hB, hbd, hd0, hd1, hyc, hY1⟩ := Y.out.at_ hlt hky
        subst hA
        subst hB
        have hx1 : x1 ≤ 140737488355328 := by
          have h1 := hX1.1
          rw [strs_length] at h1
          have h2 := hxs xs[k] (List.getElem_mem hkx)
          omega
        have hy1 : y1 ≤ 140737488355328 := by
          have h1 := hY1.1
          rw [strs_length] at h1
          have h2 := hys ys[k] (List.getElem_mem hky)
          omega
        have HX1 := Lib.hid hX1
        have HY1 := Lib.hid hY1
        obtain ⟨p, hp⟩ : ∃ p, xs[k] = p := ⟨_, rfl⟩
        obtain ⟨q, hq⟩ : ∃ q, ys[k] = q := ⟨_, rfl⟩
        obtain ⟨p1, p2⟩ := p
        obtain ⟨q1, q2⟩ := q
        rw [hp] at hc0 HX1
        rw [hq] at hd0 HY1
        have PQ := Lib.hid (And.intro hp hq)
        clear hp hq hX1 hY1
        have hcall : ∀ j, Calls Tryd.prog 24 #[.slice X1 x1 xc1, .slice Y1 y1 yc1] (w.drewN (m + j)) fun e w'' => e = .returned (.bool (decide (p2 = q2))) ∧ ∃ k, w'' = w.drewN (m + k) := fun j => (sameD_calls (w.drewN (m + j)) S T X1 Y1 x1 xc1 y1 yc1 p2 q2 (HX1.out.drewN _) (HY1.out.drewN _) hx1 hy1).mono fun _ _ ⟨h1, k, h2⟩ => ⟨h1, j + k, by rw [h2, World.drewN_drewN, Nat.add_assoc]⟩
        by_cases he2 : p2 = q2
        · rw [decide_eq_true he2] at hcall
          have HC := Lib.hid hcall
          clear hcall
          by_cases he1 : p1 = q1
          · have hb : (p1 == q1) = true := by simp [he1]
            have E := Lib.hid (And.intro he1 he2)
            clear he1 he2
            go_wp2
            go_quiet (exact HC.out _)
            go_wp2
            go_quiet (fail)
            go_wp2
            go_roundg (n - (k + 1))
            case measure => have := G.out.1; have := L.out.1; omega
            case rel =>
              refine ⟨k + 1, _, by omega, by have := L.out.1; omega, by go_num, by first | rfl | rw [World.drewN_drewN] | rw [World.drewN_drewN, World.drewN_drewN], ?_⟩
              rw [List.take_succ_eq_append_getElem hkx, List.take_succ_eq_append_getElem hky, G.out.2, PQ.out.1, PQ.out.2, E.out.1, E.out.2]
          · have hb : (p1 == q1) = false := by simp [he1]
            have E := Lib.hid he1
            clear he1
            go_wp2
            go_quiet (exact HC.out _)
            go_wp2
            go_quiet (fail)
            go_wp2
            go_ret
            refine ⟨?_, by first | exact ⟨_, rfl⟩ | exact ⟨_, World.drewN_drewN _ _ _⟩ | exact ⟨_, by rw [World.drewN_drewN, World.drewN_drewN]⟩⟩
            have : ¬ xs = ys := by
              rintro rfl
              exact E.out (congrArg Prod.fst (PQ.out.1.symm.trans PQ.out.2))
            simp [this]
        · rw [decide_eq_false he2] at hcall
          have HC := Lib.hid hcall
          have E := Lib.hid he2
          clear hcall he2
          go_wp2
          go_quiet (exact HC.out _)
          go_wp2
          go_quiet (fail)
          go_wp2
          go_ret
          refine ⟨?_, by first | exact ⟨_, rfl⟩ | exact ⟨_, World.drewN_drewN _ _ _⟩ | exact ⟨_, by rw [World.drewN_drewN, World.drewN_drewN]⟩⟩
          have : ¬ xs = ys := by
            rintro rfl
            exact E.out (congrArg Prod.snd (PQ.out.1.symm.trans PQ.out.2))
          simp [this]
      · go_wp2
        go_ret
        refine ⟨?_, _, rfl⟩
        have h1 := G.out.2
        rw [List.take_of_length_le (by rw [L.out.1]; exact hge), List.take_of_length_le (by rw [L.out.2]; exact hge)] at h1
        simp [h1]
  · have hnn : ((n : Int) != (n' : Int)) = true := by simp; omega
    have hxy : ¬ xs = ys := by rintro rfl; omega
    have H := Lib.hid hxy
    clear hxy hx hy hxl hyl
    go_enter Tryd.func13, Tryd.ntmps13
    go_wp2
    go_ret
    exact ⟨by simp [H.out], 0, rfl⟩
end Go.Proofs.YtgohpjjamciadaaDoor
