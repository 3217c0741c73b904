/- Transcripts: the head of the laws. -/
import Derived.Test.YtammhfnolafknaaDoorLogE
set_option linter.unusedVariables false
set_option linter.unusedSimpArgs false
namespace Go.Proofs.YtammhfnolafknaaDoor
open Go.RowKit Go.Shelf Go.Lib Go.Sort

def exE : List Ent := [(3, 1, [81, 85, 73, 84])]
theorem exE_text : textL exE = [51, 32, 62, 32, 81, 85, 73, 84, 10] := by decide +kernel
set_option maxHeartbeats 1000000 in
set_option maxRecDepth 100000 in
theorem shown_calls (w : World) (hp : PowT w) : Calls Tryd.prog 8 #[] w fun en w' => en = .returned (.bool true) ∧ Kept w w' NoB := by
  have hE : EntR (w.alloc (.cells #[.int .i64 3, .int .i64 1, .string ⟨#[81, 85, 73, 84]⟩] 35)) (fun k => k = w.heap.size) (some ⟨w.heap.size, 0, none⟩) 1 exE := by
    have hb := Blk.new w 35 #[.int .i64 3, .int .i64 1, .string ⟨#[81, 85, 73, 84]⟩]
    refine ⟨rfl, fun _ => ⟨_, rfl, rfl, hb.lt, fun i hi => ?_⟩⟩
    obtain rfl : i = 0 := by simp [exE] at hi; exact hi
    exact ⟨hb.cell 0, hb.cell 1, hb.cell 2⟩
  have hw : ∀ e ∈ exE, wfE 100 e := by
    intro e he
    simp only [exE, List.mem_singleton] at he
    subst he
    exact ⟨by decide, by decide, by decide, by decide, by decide⟩
  have hc := text_calls _ _ _ 1 1 100 exE hE (by omega) (by omega) hw (hp.kept0 ((Kept.refl w NoB).alloc _))
  rw [exE_text] at hc
  have HC := Lib.hid hc
  clear hc hE hw
  go_enter Tryd.func8, Tryd.ntmps8
  go_wp2_with fail
  refine HC.out.mono ?_
  rintro en w1 ⟨rfl, hk1⟩
  have HK1 := Lib.hid (((Kept.refl w NoB).alloc _).trans' hk1)
  clear hk1
  go_wp2_with fail
  go_ret
  exact ⟨rfl, HK1.out⟩
end Go.Proofs.YtammhfnolafknaaDoor
