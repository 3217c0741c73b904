/- The reference's lines of a body. -/
import Derived.Test.YtgohpjjamciadaaDoorCapsO
set_option linter.unusedVariables false
set_option linter.unusedSimpArgs false
namespace Go.Proofs.YtgohpjjamciadaaDoor
open Go.RowKit Go.Shelf

/-! ### Plain -/
def crlf : List UInt8 := [13, 10]
def hitAt (s : List UInt8) (j : Nat) : Prop := s[j]? = some 13 ∧ s[j + 1]? = some 10
theorem pre_iff (s : List UInt8) : crlf.isPrefixOf s = true ↔ hitAt s 0 := by
  match s with
  | [] => simp [crlf, hitAt, List.isPrefixOf]
  | [a] => simp [crlf, hitAt, List.isPrefixOf]
  | a :: b :: r =>
    simp only [crlf, hitAt, List.isPrefixOf, Bool.and_eq_true, beq_iff_eq, and_true, List.getElem?_cons_zero, List.getElem?_cons_succ, Option.some.injEq, Nat.zero_add]
    exact ⟨fun h => ⟨h.1.symm, h.2.symm⟩, fun h => ⟨h.1.symm, h.2.symm⟩⟩
theorem hit_cons (a : UInt8) (l : List UInt8) (j : Nat) : hitAt (a :: l) (j + 1) ↔ hitAt l j := by simp [hitAt]
theorem split_at : ∀ (k : Nat) (s : List UInt8), hitAt s k → (∀ j, j < k → ¬ hitAt s j) → Lib.split s crlf = s.take k :: Lib.split (s.drop (k + 2)) crlf
  | 0, s, h, _ => by
    rw [split_hit (by decide) ((pre_iff s).2 h)]
    rfl
  | k + 1, [], h, _ => by simp [hitAt] at h
  | k + 1, a :: l, h, hn => by
    have hp : crlf.isPrefixOf (a :: l) = false := Bool.eq_false_iff.2 fun e => hn 0 (by omega) ((pre_iff _).1 e)
    rw [split_cons (by decide) hp, split_at k l ((hit_cons a l k).1 h) (fun j hj hh => hn (j + 1) (by omega) ((hit_cons a l j).2 hh))]
    rfl
theorem split_no : ∀ (s : List UInt8), (∀ j, ¬ hitAt s j) → Lib.split s crlf = [s]
  | [], _ => split_nil (by decide)
  | a :: l, hn => by
    have hp : crlf.isPrefixOf (a :: l) = false := Bool.eq_false_iff.2 fun e => hn 0 ((pre_iff _).1 e)
    rw [split_cons (by decide) hp, split_no l (fun j hh => hn (j + 1) ((hit_cons a l j).2 hh))]
    rfl
/-- The state at place e + 1. -/
def RL (b : List UInt8) (out : List (List UInt8)) (f e : Nat) : Prop :=
  f ≤ e + 1 ∧ f ≤ b.length ∧ out.length ≤ e ∧ Lib.split b crlf = out ++ Lib.split (b.drop f) crlf ∧ ∀ j, f ≤ j → j < e → ¬ hitAt b j
theorem RL.start (b : List UInt8) : RL b [] 0 0 := ⟨by omega, by omega, Nat.le_refl _, rfl, fun j _ h => by omega⟩
theorem hit_drop (b : List UInt8) (f j : Nat) : hitAt (b.drop f) j ↔ hitAt b (f + j) := by
  unfold hitAt
  rw [List.getElem?_drop, List.getElem?_drop, Nat.add_assoc]
theorem RL.skip {b : List UInt8} {out : List (List UInt8)} {f e : Nat} (h : RL b out f e) (hno : ¬ (f ≤ e ∧ hitAt b e)) : RL b out f (e + 1) := by
  obtain ⟨h1, h2, h3, h4, h5⟩ := h
  refine ⟨by omega, h2, by omega, h4, fun j hf hj hh => ?_⟩
  rcases Nat.lt_or_ge j e with h6 | h6
  · exact h5 j hf h6 hh
  · obtain rfl : j = e := by omega
    exact hno ⟨hf, hh⟩
theorem RL.take_ {b : List UInt8} {out : List (List UInt8)} {f e : Nat} (h : RL b out f e) (hf : f ≤ e) (hh : hitAt b e) : RL b (out ++ [(b.take e).drop f]) (e + 2) (e + 1) := by
  obtain ⟨h1, h2, h3, h4, h5⟩ := h
  have hlen : e + 1 < b.length := by
    rcases Nat.lt_or_ge (e + 1) b.length with h | h
    · exact h
    · have := hh.2
      rw [List.getElem?_eq_none h] at this
      cases this
  refine ⟨by omega, by omega, by simp; omega, ?_, fun j hj hj2 => by omega⟩
  rw [h4, List.append_assoc]
  congr 1
  have := split_at (e - f) (b.drop f) ((hit_drop b f _).2 (by rw [show f + (e - f) = e by omega]; exact hh)) (fun j hj hh2 => h5 (f + j) (by omega) (by omega) ((hit_drop b f j).1 hh2))
  rw [this, List.drop_drop, show f + (e - f + 2) = e + 2 by omega, List.drop_take]
  rfl
theorem RL.fin {b : List UInt8} {out : List (List UInt8)} {f e : Nat} (h : RL b out f e) (he : b.length ≤ e + 1) : Lib.split b crlf = out ++ [b.drop f] := by
  obtain ⟨h1, h2, h3, h4, h5⟩ := h
  rw [h4]
  congr 1
  refine split_no _ fun j hh => ?_
  rw [hit_drop] at hh
  rcases Nat.lt_or_ge (f + j) e with h6 | h6
  · exact h5 _ (by omega) h6 hh
  · have := hh.2
    rw [List.getElem?_eq_none (by omega)] at this
    cases this

def RLS (w0 : World) (b : List UInt8) (gk : Nat) (v3 v4 v5 : Value) (wr : World) : Prop :=
  ∃ (out : List (List UInt8)) (f e : Nat), e ≤ b.length ∧ gk = b.length - e ∧ v4 = .int .i64 (f : Int) ∧ v5 = .int .i64 ((e : Int) + 1) ∧ RL b out f e ∧ Row wr 9 (fun k => w0.heap.size ≤ k) v3 (strs out) ∧ Kept w0 wr NoB

set_option maxHeartbeats 4000000 in
set_option maxRecDepth 100000 in
theorem refLines_calls (w : World) (T : Nat → Prop) (B : Option Addr) (m d : Nat) (b : List UInt8) (hB : Reads w T B m (b8s b)) (hmd : m ≤ d) (hm : m ≤ 1099511627) :
    Calls Tryd.prog 23 #[.slice B m d] w fun en w' => ∃ v, en = .returned v ∧ Row w' 9 (fun k => w.heap.size ≤ k) v (strs (Lib.split b crlf)) ∧ Kept w w' NoB := by
  obtain ⟨hi0, hz1, hz0⟩ : ∃ i, Tryd.prog.info? 5 = some i ∧ i.size = 1 := by
    have : (Tryd.prog.info? 5).map (·.size) = some 1 := by kernel_rfl
    obtain ⟨i, h1, h2⟩ := Option.map_eq_some_iff.1 this
    exact ⟨i, h1, h2⟩
  have hl : b.length = m := by have := hB.1; rwa [b8s_length] at this
  have HB := Lib.hid hB
  clear hB
  go_enter Tryd.func23, Tryd.ntmps23
  go_wp2_with fail
  go_loopg [3, 4, 5] b.length (fun gk v3 v4 v5 wr => RLS w b gk v3 v4 v5 wr)
  case atStart => exact ⟨[], 0, 0, Nat.zero_le _, rfl, rfl, rfl, RL.start b, Row.made0 _ _ _ (Nat.le_refl _), (Kept.refl _ _).alloc _⟩
  case round =>
    obtain ⟨out, f, e, he, hgk, rfl, rfl, hrl, hrow, hkr⟩ := hrel
    have HG := Lib.hid hgk
    have HRL := Lib.hid hrl
    have HROW := Lib.hid hrow
    have HKR := Lib.hid hkr
    have HBr := Lib.hid (HB.out.kept0 hkr)
    have hfe := hrl.1
    have hfb := hrl.2.1
    have hol := hrl.2.2.1
    obtain ⟨V3, c3, hv3, _, _⟩ := hrow.shape
    rw [strs_length] at hv3
    subst hv3
    clear hgk hrl hrow hkr
    by_cases hlt : e + 1 < b.length
    · obtain ⟨ad, u, hA1, hu, hc0⟩ := HBr.out.at_ (k := e) (by omega)
      obtain ⟨ad', u', hA2, hu', hc1⟩ := HBr.out.at_ (k := e + 1) (by omega)
      subst hA1
      injection hA2 with hA2
      subst hA2
      rw [b8s_at b e (by omega)] at hu
      rw [b8s_at b (e + 1) hlt] at hu'
      injection hu with hu
      injection hu' with hu'
      subst hu hu'
      obtain ⟨x, hx⟩ : ∃ x : Nat, (b[e]'(by omega)).toNat = x := ⟨_, rfl⟩
      obtain ⟨y, hy⟩ : ∃ y : Nat, (b[e + 1]'hlt).toNat = y := ⟨_, rfl⟩
      rw [hx] at hc0
      rw [hy, add_succ_] at hc1
      have hhit : hitAt b e ↔ (x = 13 ∧ y = 10) := by
        unfold hitAt
        rw [List.getElem?_eq_getElem (by omega : e < b.length), List.getElem?_eq_getElem hlt]
        simp only [Option.some.injEq]
        constructor
        · rintro ⟨h1, h2⟩
          exact ⟨by rw [← hx, h1]; rfl, by rw [← hy, h2]; rfl⟩
        · rintro ⟨h1, h2⟩
          exact ⟨UInt8.toNat_inj.1 (by rw [hx, h1]; rfl), UInt8.toNat_inj.1 (by rw [hy, h2]; rfl)⟩
      have HH := Lib.hid hhit
      have tm : ((e : Int) + 1) < (m : Int) := by omega
      clear hhit hx hy
      by_cases hc : f ≤ e ∧ (x = 13 ∧ y = 10)
      · obtain ⟨hf, rfl, rfl⟩ := hc
        have hnew := HRL.out.take_ hf (HH.out.2 ⟨rfl, rfl⟩)
        have HN := Lib.hid hnew
        have tf : (f : Int) < (e : Int) + 1 := by omega
        obtain ⟨A', hsl, hA'⟩ := cut_lh (P := Tryd.prog) 23 5 .i64 .i64 Tryd.underlying23 hz1 hz0 (some ad) m d f e hf (by omega)
        have hrA := hA' wr T _ (by omega) hmd HBr.out
        rw [b8s_take, b8s_drop] at hrA
        have hcv := hrA.string 23 5 9 Tryd.underlying23 Tryd.underlying5 Tryd.underlying9 (d - f)
        have hsl' := hsl wr
        clear hnew hsl hA' hrA
        go_wp2_with (at_builtin; refine wpList_app1 (W := wr) rfl _ _ 22 9 (.string ByteArray.empty) 16 rfl Tryd.underlying22 info_str rfl (by decide) (fun k => w.heap.size ≤ k) (.slice V3 out.length c3) (strs out) (.string (strB ((b.take e).drop f))) rfl rfl rfl HROW.out (fun k hk => Nat.le_trans HKR.out.size hk) (by rw [strs_length]; omega) ?_; intro v9 w9 hown hkp hob)
        go_roundg (b.length - (e + 1))
        case measure => have := HG.out; omega
        case rel =>
          refine ⟨_, _, e + 1, by omega, rfl, ?_, ?_, HN.out, ?_, HKR.out.trans hkp fun k ho => .inr (HROW.out.2 k ho)⟩
          · go_num
          · go_num
          · rw [strs_append]
            exact hown
      · have hskip := HRL.out.skip (fun h => hc ⟨h.1, HH.out.1 h.2⟩)
        have HN := Lib.hid hskip
        clear hskip
        by_cases hf : f ≤ e
        · have tf : (f : Int) < (e : Int) + 1 := by omega
          by_cases h13 : x = 13
          · subst h13
            have h10 : ((y : Int) == 10) = false := by rw [beq_eq_false_iff_ne]; omega
            clear hc
            go_wp2_with fail
            go_roundg (b.length - (e + 1))
            case measure => have := HG.out; omega
            case rel => exact ⟨out, f, e + 1, by omega, rfl, rfl, by go_num, HN.out, HROW.out, HKR.out⟩
          · have h13' : ((x : Int) == 13) = false := by rw [beq_eq_false_iff_ne]; omega
            clear hc
            go_wp2_with fail
            go_roundg (b.length - (e + 1))
            case measure => have := HG.out; omega
            case rel => exact ⟨out, f, e + 1, by omega, rfl, rfl, by go_num, HN.out, HROW.out, HKR.out⟩
        · have tf : ¬ ((f : Int) < (e : Int) + 1) := by omega
          clear hc
          go_wp2_with fail
          go_roundg (b.length - (e + 1))
          case measure => have := HG.out; omega
          case rel => exact ⟨out, f, e + 1, by omega, rfl, rfl, by go_num, HN.out, HROW.out, HKR.out⟩
    · have hfin := HRL.out.fin (by omega)
      have HF := Lib.hid hfin
      have tm : ¬ ((e : Int) + 1) < (m : Int) := by omega
      obtain ⟨A', hsl, hA'⟩ := cut_l (P := Tryd.prog) 23 5 .i64 Tryd.underlying23 hz1 hz0 B m d f (by omega)
      have hrA := hA' wr T _ hmd HBr.out
      rw [b8s_drop] at hrA
      have hcv := hrA.string 23 5 9 Tryd.underlying23 Tryd.underlying5 Tryd.underlying9 (d - f)
      have hsl' := hsl wr
      clear hfin hsl hA' hrA
      go_wp2_with (at_builtin; refine wpList_app1 (W := wr) rfl _ _ 22 9 (.string ByteArray.empty) 16 rfl Tryd.underlying22 info_str rfl (by decide) (fun k => w.heap.size ≤ k) (.slice V3 out.length c3) (strs out) (.string (strB (b.drop f))) rfl rfl rfl HROW.out (fun k hk => Nat.le_trans HKR.out.size hk) (by rw [strs_length]; omega) ?_; intro v9 w9 hown hkp hob)
      go_ret
      refine ⟨v9, rfl, ?_, HKR.out.trans hkp fun k ho => .inr (HROW.out.2 k ho)⟩
      rw [HF.out, strs_append]
      exact hown
end Go.Proofs.YtgohpjjamciadaaDoor
