/- The reference's comparison of entries. -/
import Derived.Test.YtammhfnolafknaaDoorLogF
import Derived.Laws.StructEq
import Derived.BigQuiet
set_option linter.unusedVariables false
set_option linter.unusedSimpArgs false
namespace Go.Proofs.YtammhfnolafknaaDoor
open Go.RowKit Go.Shelf

@[go_sem] theorem gEn : Tryd.prog.eqGuardType Tryd.prog.depth 35 = false := by kernel_rfl
@[go_sem] theorem eqEn (a b a' b' : Int) (c c' : ByteArray) (w : World) :
    (Op.equalIn 10000 35 (.agg #[.int .i64 a, .int .i64 b, .string c]) (.agg #[.int .i64 a', .int .i64 b', .string c'])).run Tryd.prog w = .ok (a == a' && (b == b' && c.toList == c'.toList)) w := by
  have us := Tryd.underlying9
  have ub := Tryd.underlying3
  have ias := Tryd.isAgg9
  have iab := Tryd.isAgg3
  have zs := Tryd.sizeOf9
  have zb := Tryd.sizeOf3
  have hS : Tryd.prog.underlying 35 = some (.struct (Tryd.prog.fieldsOf 35)) := by kernel_rfl
  rw [show (10000 : Nat) = 9999 + 1 from rfl, run_equalIn_agg w 9999 35 _ _ hS (by kernel_rfl)]
  simp only [Program.fieldsOf, Tryd.underlying35]
  go_simp
  by_cases h1 : a = a' <;> by_cases h2 : b = b' <;> by_cases h3 : c.toList = c'.toList <;> simp [h1, h2, h3]
def eqEb (p q : Ent) : Bool := p.1 == q.1 && (p.2.1 == q.2.1 && p.2.2 == q.2.2)
theorem eqEb_iff (p q : Ent) : eqEb p q = decide (p = q) := by
  obtain ⟨a, b, c⟩ := p
  obtain ⟨a', b', c'⟩ := q
  unfold eqEb
  by_cases h1 : a = a' <;> by_cases h2 : b = b' <;> by_cases h3 : c = c' <;> simp [h1, h2, h3]
def SamE (w0 : World) (xs ys : List Ent) (gk : Nat) (i : Value) (wr : World) : Prop :=
  ∃ k m, k ≤ xs.length ∧ gk = xs.length - k ∧ i = .int .i64 (k : Int) ∧ wr = w0.drewN m ∧ xs.take k = ys.take k
set_option maxHeartbeats 2000000 in
set_option maxRecDepth 100000 in
theorem sameE_calls (w : World) (S T : Nat → Prop) (A B : Option Addr) (n c n' c' : Nat) (xs ys : List Ent) (hx : EntR w S A n xs) (hy : EntR w T B n' ys) (hn : n ≤ 140737488355328) (hn' : n' ≤ 140737488355328) :
    Calls Tryd.prog 16 #[.slice A n c, .slice B n' c'] w fun en w' => en = .returned (.bool (decide (xs = ys))) ∧ Kept w w' NoB := by
  have hxl : xs.length = n := hx.1
  have hyl : ys.length = n' := hy.1
  by_cases hne : n = n'
  · subst hne
    have X := Lib.hid hx
    have Y := Lib.hid hy
    have L := Lib.hid (And.intro hxl hyl)
    have hnn : ((n : Int) != (n : Int)) = false := by simp
    clear hx hy hxl hyl
    go_enter Tryd.func16, Tryd.ntmps16
    go_wp2
    go_loopg [5] xs.length (fun gk i wr => SamE w xs ys gk i wr)
    case atStart => exact ⟨0, 0, Nat.zero_le _, rfl, rfl, rfl, rfl⟩
    case round =>
      obtain ⟨k, m, hk, hgk, rfl, rfl, ht⟩ := hrel
      have G := Lib.hid (And.intro hgk ht)
      clear hgk ht
      rcases Nat.lt_or_ge k n with hlt | hge
      · have hkx : k < xs.length := by rw [L.out.1]; exact hlt
        have hky : k < ys.length := by rw [L.out.2]; exact hlt
        obtain ⟨ad, hA, a0, a1, a2⟩ := X.out.at_ hlt hkx
        obtain ⟨bd, hB, b0, b1, b2⟩ := Y.out.at_ hlt hky
        subst hA
        subst hB
        obtain ⟨p, hp⟩ : ∃ p, xs[k] = p := ⟨_, rfl⟩
        obtain ⟨q, hq⟩ : ∃ q, ys[k] = q := ⟨_, rfl⟩
        rw [hp] at a0 a1 a2
        rw [hq] at b0 b1 b2
        have PQ := Lib.hid (And.intro hp hq)
        clear hp hq
        have heq := eqEb_iff p q
        obtain ⟨p1, p2, p3⟩ := p
        obtain ⟨q1, q2, q3⟩ := q
        dsimp only at a0 a1 a2 b0 b1 b2
        unfold eqEb at heq
        dsimp only at heq
        by_cases he : ((p1, p2, p3) : Ent) = (q1, q2, q3)
        · rw [decide_eq_true he] at heq
          have E := Lib.hid he
          clear he
          simp only [Bool.and_eq_true] at heq
          obtain ⟨z1, z2, z3⟩ := heq
          go_wp2
          go_quiet (fail)
          go_wp2
          go_roundg (n - (k + 1))
          case measure => have := G.out.1; have := L.out.1; omega
          case rel =>
            refine ⟨k + 1, m + nq, by omega, by have := L.out.1; omega, by go_num, by first | rfl | rw [World.drewN_drewN], ?_⟩
            rw [List.take_succ_eq_append_getElem hkx, List.take_succ_eq_append_getElem hky, G.out.2, PQ.out.1, PQ.out.2, E.out]
        · have E := Lib.hid he
          have N2 : Hid (decide (xs = ys) = false) := Lib.hid (decide_eq_false (by
            rintro rfl
            exact he (PQ.out.1.symm.trans PQ.out.2)))
          clear heq
          by_cases h1 : p1 = q1
          · have z1 : (p1 == q1) = true := by simp [h1]
            by_cases h2 : p2 = q2
            · have z2 : (p2 == q2) = true := by simp [h2]
              have z3 : (p3 == q3) = false := by
                rw [beq_eq_false_iff_ne]
                intro h3
                exact he (by rw [h1, h2, h3])
              clear he h1 h2
              go_wp2
              go_quiet (fail)
              go_wp2
              go_ret
              exact ⟨by rw [N2.out]; rfl, by first | exact (Kept.refl _ _).drewN _ | exact ((Kept.refl _ _).drewN _).drewN _⟩
            · have z2 : (p2 == q2) = false := by simp [h2]
              clear he h1 h2
              go_wp2
              go_quiet (fail)
              go_wp2
              go_ret
              exact ⟨by rw [N2.out]; rfl, by first | exact (Kept.refl _ _).drewN _ | exact ((Kept.refl _ _).drewN _).drewN _⟩
          · have z1 : (p1 == q1) = false := by simp [h1]
            clear he h1
            go_wp2
            go_quiet (fail)
            go_wp2
            go_ret
            exact ⟨by rw [N2.out]; rfl, by first | exact (Kept.refl _ _).drewN _ | exact ((Kept.refl _ _).drewN _).drewN _⟩
      · go_wp2
        go_ret
        refine ⟨?_, (Kept.refl _ _).drewN _⟩
        have h1 := G.out.2
        rw [List.take_of_length_le (by rw [L.out.1]; exact hge), List.take_of_length_le (by rw [L.out.2]; exact hge)] at h1
        simp [h1]
  · have hnn : ((n : Int) != (n' : Int)) = true := by simp; omega
    have hxy : ¬ xs = ys := by rintro rfl; omega
    have H := Lib.hid hxy
    clear hxy hx hy hxl hyl
    go_enter Tryd.func16, Tryd.ntmps16
    go_wp2
    go_ret
    exact ⟨by simp [H.out], Kept.refl _ _⟩
end Go.Proofs.YtammhfnolafknaaDoor
