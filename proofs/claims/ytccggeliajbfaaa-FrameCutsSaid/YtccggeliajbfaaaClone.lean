/- Clone. -/
import Derived.Test.YtccggeliajbfaaaFrame3
set_option linter.unusedVariables false
set_option linter.unusedSimpArgs false
namespace Go.Proofs.Ytccggeliajbfaaa
open Go.RowKit

set_option maxHeartbeats 1000000 in
set_option maxRecDepth 100000 in
theorem clone_calls (w : World) (F : Nat → Prop) (g : Nat) (l : List UInt8) (cr : Bool) (most e : Int) (hf : Fr w F g l cr most e) (hl : l.length ≤ 1099511627776) :
    Calls Try.prog 16 #[.pointer (some ⟨g, 0, none⟩)] w fun en w' => ∃ g' F', en = .returned (.pointer (some ⟨g', 0, none⟩)) ∧ Fr w' F' g' l cr most e ∧ (∀ k, F' k → w.heap.size ≤ k) ∧ Kept w w' NoB := by
  obtain ⟨⟨v, hb, hr, hS⟩, hlt⟩ := hf
  obtain ⟨A, c, rfl, hc, hrd⟩ := hr.readsN (b8s_length l)
  have hg := hb.lt
  obtain ⟨h0, h1, h2, h3, z0, z1, z3⟩ := four hb
  have HB := Lib.hid hb
  have HR := Lib.hid hrd
  have HRW := Lib.hid hr
  clear hb hrd hr
  go_enter Try.func16, Try.ntmps16
  have honeb : ∀ u ∈ b8s l, u.oneCell' = true := by
    intro u hu
    simp only [b8s, List.mem_map] at hu
    obtain ⟨q, _, rfl⟩ := hu
    rfl
  have O2 := Lib.hid honeb
  clear honeb
  go_wp2_with (at_builtin; refine wpList_appN (W := w.alloc (.cells #[.slice A l.length c, .bool cr, .int .i64 most, .int .i64 e] 47)) rfl (.const (.slice none 0 0)) (.tmp 10) 29 5 (.int .u8 0) 1 rfl Try.underlying29 info_u8 rfl (by decide) (fun j => w.heap.size ≤ j) F (.slice none 0 0) [] (b8s l) A l.length c rfl rfl O2.out (Row.nil _ _ _) (HR.out.alloc _) (fun j hj => by simp at hj; omega) (by simp; omega) ?_; intro v1 w1 hown hk1 hob; obtain ⟨A1, n1, c1, hv1⟩ := hown.slice; subst hv1; have hb1 := (Blk.new w 47 #[.slice A l.length c, .bool cr, .int .i64 most, .int .i64 e]).kept hk1 (by simp [OB, Value.ownBlock]); obtain ⟨q0, q1, q2, q3, y0, y1, y3⟩ := four hb1)
  go_ret
  have hb2 : Blk (w1.setCell ⟨w.heap.size, 0, none⟩ (.slice A1 n1 c1)) w.heap.size 47 #[.slice A1 n1 c1, .bool cr, .int .i64 most, .int .i64 e] := by simpa using hb1.set_ 0 (.slice A1 n1 c1)
  have hown2 : Row (w1.setCell ⟨w.heap.size, 0, none⟩ (.slice A1 n1 c1)) 5 (OB (.slice A1 n1 c1)) (.slice A1 n1 c1) (b8s l) := by
    have := hown.far (p := ⟨w.heap.size, 0, none⟩) (hown.ne_blk hb1 (by decide)) (.slice A1 n1 c1)
    exact ⟨this.1, fun k hk => hk⟩
  refine ⟨w.heap.size, fun k => k = w.heap.size ∨ OB (.slice A1 n1 c1) k, rfl, ⟨⟨_, hb2, hown2.mono fun k _ h => .inr h, .inl rfl⟩, ?_⟩, ?_, ?_⟩
  · rintro k (rfl | h)
    · exact hb2.lt
    · exact hown2.lt h
  · rintro k (rfl | h)
    · exact Nat.le_refl _
    · exact hown.2 k h
  · exact (((Kept.refl w NoB).alloc _).trans hk1 (fun b hb => by simp [OB, Value.ownBlock] at hb)).setCell (p := ⟨w.heap.size, 0, none⟩) (.inr (Nat.le_refl _)) _
end Go.Proofs.Ytccggeliajbfaaa
