/- Replies: the head of the laws. -/
import Derived.Test.YtamemddgajmimaaDoorRepC
import Derived.Outline
set_option linter.unusedVariables false
set_option linter.unusedSimpArgs false
namespace Go.Proofs.YtamemddgajmimaaDoor
open Go.RowKit Go.Shelf

theorem MkSt.new (w : World) (proto : Int) : MkSt (w.alloc (.cells #[.int .i64 proto, .string ByteArray.empty, .slice none 0 0, .slice none 0 0, .pointer none, .nilFunc] 51)) w.heap.size proto none (.slice none 0 0) := ⟨Blk.new _ _ _, rfl⟩
theorem MkSt.kept {w w' : World} {S : Nat → Prop} {g : Nat} {proto : Int} {st : Option Rp} {v : Value} (h : MkSt w g proto st v) (k : Kept w w' S) (hg : ¬ S g) (hv : ∀ b, OB v b → ¬ S b) : MkSt w' g proto st v := by
  cases st with
  | none => exact ⟨h.1.kept k hg, h.2⟩
  | some q => exact ⟨h.1, h.2.1, h.2.2.1.kept k hg, h.2.2.2.kept_ k hv⟩
theorem MkSt.kept0 {w w' : World} {g : Nat} {proto : Int} {st : Option Rp} {v : Value} (h : MkSt w g proto st v) (k : Kept w w' NoB) : MkSt w' g proto st v := h.kept k (fun x => x) fun _ _ x => x
theorem MkSt.lt {w : World} {g : Nat} {proto : Int} {st : Option Rp} {v : Value} (h : MkSt w g proto st v) : g < w.heap.size := by
  cases st with
  | none => exact h.1.lt
  | some q => exact h.2.2.1.lt
theorem MkSt.obl {w : World} {g : Nat} {proto : Int} {st : Option Rp} {v : Value} (h : MkSt w g proto st v) : ∀ k, OB v k → k < w.heap.size := by
  cases st with
  | none => rw [h.2]; exact fun k hk => absurd hk ob_nil
  | some q => exact fun k hk => h.2.2.2.lt hk
theorem line_at (w : World) (g : Nat) (proto : Int) (st : Option Rp) (v : Value) (s : List UInt8) (body : Bool) (S : ByteArray) (r : Option Rp × Int × Option Rp) (hS : strB s = S) (hr : stepM proto st s = r) (h : MkSt w g proto st v) (hl : s.length ≤ 1099511627) (hm : MaxI w) (hbody : ¬ (proto = 2 ∧ body = true)) :
    Calls Tryd.prog 12 #[.pointer (some ⟨g, 0, none⟩), .string S, .bool body] w (LinePost w g proto v r) := by
  subst hS hr
  exact line_calls w g proto st v s body h hl hm hbody
set_option maxHeartbeats 1000000 in
set_option maxRecDepth 100000 in
theorem shown_calls (w : World) (hm : MaxI w) : Calls Tryd.prog 9 #[] w fun en w' => en = .returned (.bool true) ∧ Kept w w' NoB := by
  go_enter Tryd.func9, Tryd.ntmps9
  go_wp2_with fail
  refine (new_calls w 1).mono ?_
  rintro en w0 ⟨rfl, hw0⟩
  have h0 : MkSt w0 w.heap.size 1 none (.slice none 0 0) := by rw [hw0]; exact MkSt.new w 1
  have hk0 : Kept w w0 NoB := by rw [hw0]; exact (Kept.refl _ _).alloc _
  have H0 := Lib.hid h0
  have HK0 := Lib.hid hk0
  clear hw0 h0 hk0
  go_wp2_with fail
  refine (line_at w0 _ 1 _ _ [50, 53, 48, 45, 97] false _ (none, 0, some ([50, 53, 48], [[97]])) rfl (by decide) H0.out (by decide) (hm.kept0 HK0.out) (by decide)).mono ?_
  rintro en w1 ⟨vr, v1, rfl, hr, h1, hk1, ho1, _⟩
  simp only [rpV, Option.getD_none, Option.isSome_none]
  obtain ⟨A1, c1, rfl, _⟩ := hr.readsN (n := 0) rfl
  have H1 := Lib.hid h1
  have HK1 := Lib.hid (HK0.out.trans hk1 fun b hb => .inr (by
    rcases hb with rfl | hb
    · omega
    · exact absurd hb ob_nil))
  have HO1 := Lib.hid ho1
  clear hr h1 hk1 ho1
  go_wp2_with fail
  refine (line_at _ _ 1 _ _ [50, 53, 48, 32, 98] false _ (some ([50, 53, 48], [[97], [98]]), 0, none) rfl (by decide) (H1.out.kept0 ((Kept.refl _ _).alloc _)) (by decide) (hm.kept0 (HK1.out.alloc _)) (by decide)).mono ?_
  rintro en w2 ⟨vr, v2, rfl, hr, h2, hk2, ho2, _⟩
  simp only [rpV, Option.getD_some, Option.isSome_some] at hr ⊢
  obtain ⟨A2, c2, rfl, hc2, hR⟩ := hr.readsN (n := 2) rfl
  obtain ⟨ad, hA, _, hadl, hcc⟩ := hR.2 (by decide)
  have hc1 : w2.cell? ⟨ad.block, ad.off + 1, none⟩ = some (.string (strB [98])) := hcc 1 _ rfl
  subst hA
  clear hcc
  have hk12 : Kept w w2 NoB := (HK1.out.alloc _).trans hk2 fun b hb => .inr (by
    have h1 := HK0.out.size
    rcases hb with rfl | hb
    · omega
    · rcases HO1.out _ hb with h | h
      · exact absurd h ob_nil
      · omega)
  have HK2 := Lib.hid hk12
  clear hr h2 hk2 ho2 hR hk12
  go_wp2_with fail
  go_ret
  exact ⟨rfl, HK2.out.alloc _⟩
end Go.Proofs.YtamemddgajmimaaDoor
