/-
  No cell of these rows narrows 'for every input' (looked for: loops, veiled, ifaces, maps, wideKeys, modest, calm, conditions, laid).
  DERIVED. THE GIVEN ROWS OF THIS SEAT. 3 by the template 'for every input the law returns true; each argument reads behind the call as it read before'; 0 by the template 'total and deterministic' (their statements: YtllhnedfeballaaTotals.lean).
  GIVEN WITH THE SEED: the statements are not yours to turn. If you find one false, say at which input.
  Laid BY PROGRAM, IN A SANDBOX (cutbox-rows.mjs): the forced cells as the released guide's own fill.sh prints them over the translation e2e7c357997d93a4… (all of the seat's roots in one cut). By AI agents, Wed Nov 11 2026. No macro, syntax, notation, axiom, sorry.
-/
import Derived.Test.YtllhnedfeballaaChecked
import GoSem.Claim
import GoSem.ClaimJoined
import GoSem.ClaimMapViews
import Derived.JoinedTies
import Derived.KernelRfl
namespace Go.Proofs.Ytllhnedfeballaa
/- THE CELL 'sum', in the pinned program and in every row, IS THE sha256 OF THE DUMP (.gsa) THAT YtllhnedfeballaaProg.lean LOADS. Nothing in Lean hashes anything: it is a label: what it is worth is what the hold of that sum in a sandbox is worth. -/
noncomputable def Try.pinned : Pinned := { name := "ytllhnedfeballaa", sum := "e2e7c357997d93a447912c4ddd4283d42bdbf95180853c864fd0a59615bf5b0f", checked := Try.checked }
namespace Rows
def none {H : Type} : Left H := { results := [], args := [] }

/-- 'rejoinderlaw02.B64Joins': WHATEVER THE INPUT: true; the input reads as it did. -/
def b64JoinsSpec : ChangeSpec := { name := "b64Joins", fn := fun _ => fun
  | [d1, d2] => { results := [.lit (.bool true)], args := [d1, d2] }
  | _ => none }
def b64JoinsRow : OpenClaim := { program := "ytllhnedfeballaa", sum := "e2e7c357997d93a447912c4ddd4283d42bdbf95180853c864fd0a59615bf5b0f", func := "rejoinder/rejoinderlaw02.B64Joins", spec := "b64Joins", inPlace := ["internal/abi.NoEscape"], apart := false }
def B64JoinsSaid : Prop := b64JoinsRow.holds Try.pinned (OpenSpec.ofChange b64JoinsSpec)

/-- ITS FALSE NEIGHBOUR: 'it returns false'. Refute it at one input. -/
def b64JoinsWrong : ChangeSpec := { name := "b64Joins", fn := fun _ => fun
  | [d1, d2] => { results := [.lit (.bool false)], args := [d1, d2] }
  | _ => none }
def B64JoinsWrongFalsely : Prop := b64JoinsRow.holds Try.pinned (OpenSpec.ofChange b64JoinsWrong)

/-- 'rejoinderlaw02.B64Letters': WHATEVER THE INPUT: true; the input reads as it did. -/
def b64LettersSpec : ChangeSpec := { name := "b64Letters", fn := fun _ => fun
  | [d] => { results := [.lit (.bool true)], args := [d] }
  | _ => none }
def b64LettersRow : OpenClaim := { program := "ytllhnedfeballaa", sum := "e2e7c357997d93a447912c4ddd4283d42bdbf95180853c864fd0a59615bf5b0f", func := "rejoinder/rejoinderlaw02.B64Letters", spec := "b64Letters", inPlace := ["internal/abi.NoEscape"], apart := false }
def B64LettersSaid : Prop := b64LettersRow.holds Try.pinned (OpenSpec.ofChange b64LettersSpec)

/-- ITS FALSE NEIGHBOUR: 'it returns false'. Refute it at one input. -/
def b64LettersWrong : ChangeSpec := { name := "b64Letters", fn := fun _ => fun
  | [d] => { results := [.lit (.bool false)], args := [d] }
  | _ => none }
def B64LettersWrongFalsely : Prop := b64LettersRow.holds Try.pinned (OpenSpec.ofChange b64LettersWrong)

/-- 'rejoinderlaw02.B64Rows': WHATEVER THE INPUT: true; the input reads as it did. -/
def b64RowsSpec : ChangeSpec := { name := "b64Rows", fn := fun _ => fun
  | [d] => { results := [.lit (.bool true)], args := [d] }
  | _ => none }
def b64RowsRow : OpenClaim := { program := "ytllhnedfeballaa", sum := "e2e7c357997d93a447912c4ddd4283d42bdbf95180853c864fd0a59615bf5b0f", func := "rejoinder/rejoinderlaw02.B64Rows", spec := "b64Rows", inPlace := ["internal/abi.NoEscape"], apart := false }
def B64RowsSaid : Prop := b64RowsRow.holds Try.pinned (OpenSpec.ofChange b64RowsSpec)

/-- ITS FALSE NEIGHBOUR: 'it returns false'. Refute it at one input. -/
def b64RowsWrong : ChangeSpec := { name := "b64Rows", fn := fun _ => fun
  | [d] => { results := [.lit (.bool false)], args := [d] }
  | _ => none }
def B64RowsWrongFalsely : Prop := b64RowsRow.holds Try.pinned (OpenSpec.ofChange b64RowsWrong)

/- THE SECOND FORM. 'bulk': how many values and letters a reading holds, each counted each time it is reached (what is shared counts as often as it is met; a slice's spare places count too). A statement '..UptoSaid' is the law's where the arguments, and the package variables that the reading takes, are together of bulk at most 1048576: NARROWER than '..Said'. Prove '..Said' where nothing that the law and all that it calls make is longer than what came in: it says more and counts as full. Else prove '..UptoSaid'. A law counts once. -/
mutual
def uptoBulk {H : Type} : DataW H → Nat
  | .lit (.string bytes) => bytes.length + 1
  | .lit _ => 1
  | .nil => 1
  | .ptr d => uptoBulk d + 1
  | .slice elems spare => uptoBulkAll elems + uptoBulkAll spare + 1
  | .agg parts => uptoBulkAll parts + 1
  | .iface _ d => uptoBulk d + 1
  | .map entries => uptoBulkEntries entries + 1
  | .held _ => 1
def uptoBulkAll {H : Type} : List (DataW H) → Nat
  | [] => 0
  | d :: r => uptoBulk d + uptoBulkAll r
def uptoBulkEntries {H : Type} : List (Lit × DataW H) → Nat
  | [] => 0
  | x :: r => uptoBulkEntry x + uptoBulkEntries r
def uptoBulkEntry {H : Type} : Lit × DataW H → Nat
  | (.string bytes, d) => bytes.length + uptoBulk d + 1
  | (_, d) => uptoBulk d + 1
 end
def uptoSmall : (H : Type) → List (DataW H) → Bool := fun _ ds => decide (uptoBulkAll ds ≤ 1048576)
def OpenSpec.upto (s : _root_.Go.ChangeSpec) : _root_.Go.OpenSpec := { _root_.Go.OpenSpec.ofChange s with cond := some uptoSmall }

/-- 'rejoinderlaw02.B64Joins', WHERE WHAT IT READS IS OF BULK AT MOST 1048576: true; the input reads as it did. -/
def b64JoinsUptoRow : OpenClaim := { program := "ytllhnedfeballaa", sum := "e2e7c357997d93a447912c4ddd4283d42bdbf95180853c864fd0a59615bf5b0f", func := "rejoinder/rejoinderlaw02.B64Joins", spec := "b64Joins", inPlace := ["internal/abi.NoEscape"], apart := false, narrowed := true }
def B64JoinsUptoSaid : Prop := b64JoinsUptoRow.holds Try.pinned (OpenSpec.upto b64JoinsSpec)

/-- 'rejoinderlaw02.B64Letters', WHERE WHAT IT READS IS OF BULK AT MOST 1048576: true; the input reads as it did. -/
def b64LettersUptoRow : OpenClaim := { program := "ytllhnedfeballaa", sum := "e2e7c357997d93a447912c4ddd4283d42bdbf95180853c864fd0a59615bf5b0f", func := "rejoinder/rejoinderlaw02.B64Letters", spec := "b64Letters", inPlace := ["internal/abi.NoEscape"], apart := false, narrowed := true }
def B64LettersUptoSaid : Prop := b64LettersUptoRow.holds Try.pinned (OpenSpec.upto b64LettersSpec)

/-- 'rejoinderlaw02.B64Rows', WHERE WHAT IT READS IS OF BULK AT MOST 1048576: true; the input reads as it did. -/
def b64RowsUptoRow : OpenClaim := { program := "ytllhnedfeballaa", sum := "e2e7c357997d93a447912c4ddd4283d42bdbf95180853c864fd0a59615bf5b0f", func := "rejoinder/rejoinderlaw02.B64Rows", spec := "b64Rows", inPlace := ["internal/abi.NoEscape"], apart := false, narrowed := true }
def B64RowsUptoSaid : Prop := b64RowsUptoRow.holds Try.pinned (OpenSpec.upto b64RowsSpec)

end Rows
end Go.Proofs.Ytllhnedfeballaa
