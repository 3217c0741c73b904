/- Addresses: the head of the laws. -/
import Derived.Test.YtlbipnfnimekfaaDoorAddrR3
import Derived.Test.YtlbipnfnimekfaaDoorAddrR4
import Derived.Test.YtlbipnfnimekfaaDoorRows
import Derived.Test.YtlbipnfnimekfaaDoorRowW
import Derived.LaidSub
set_option linter.unusedVariables false
set_option linter.unusedSimpArgs false
namespace Go.Proofs.YtlbipnfnimekfaaDoor
open Go.RowKit Go.Shelf Go.MakeChecks Go.Sort

/-- What the walks want of memory. -/
structure LdT (w : World) : Prop where
  m : MaxI w
  e : ErrT w
  p : PowT w
theorem LdT.kept0 {w w' : World} (h : LdT w) (k : Kept w w' NoB) : LdT w' := ⟨h.m.kept0 k, h.e.kept0 k, h.p.kept0 k⟩
theorem PowT.of_laid {w : World} (h : laidMetH Tryd.prog Rows.addrAllRow.laid w) : PowT w := by
  have h1 := laidMetH.filter (fun x => x.1 == "internal/strconv.uint64pow10") h
  have e : Rows.addrAllRow.laid.filter (fun x => x.1 == "internal/strconv.uint64pow10") = [("internal/strconv.uint64pow10", Lib.tabData .u64 Lib.pow10Tab)] := by rfl
  rw [e, laidMetH_plain _ _ _ (by rfl)] at h1
  exact Lib.tabIs_of_head (g := 5) (t := 124) (e := 69) (n := 20) (by kernel_rfl) (by kernel_rfl) Tryd.underlying124 Tryd.underlying69 (by kernel_rfl) (by kernel_rfl) h1
theorem ErrT.of_laid {w : World} (h : laidMetH Tryd.prog Rows.addrAllRow.laid w) : ErrT w := by
  refine ⟨?_, ?_⟩
  · have h1 := laidMetH.filter (fun x => x.1 == "strconv.ErrSyntax") h
    have e : Rows.addrAllRow.laid.filter (fun x => x.1 == "strconv.ErrSyntax") = [("strconv.ErrSyntax", Rows.laid_strconv_ErrSyntax)] := by rfl
    rw [e, laidMetH_plain _ _ _ (by rfl)] at h1
    exact errV_of_head (g := 1) (t := 61) (by kernel_rfl) (by kernel_rfl) Tryd.underlying61 h1
  · have h1 := laidMetH.filter (fun x => x.1 == "strconv.ErrRange") h
    have e : Rows.addrAllRow.laid.filter (fun x => x.1 == "strconv.ErrRange") = [("strconv.ErrRange", Rows.laid_strconv_ErrRange)] := by rfl
    rw [e, laidMetH_plain _ _ _ (by rfl)] at h1
    exact errV_of_head (g := 2) (t := 61) (by kernel_rfl) (by kernel_rfl) Tryd.underlying61 h1
theorem LdT.of {w : World} (h : laidMetH Tryd.prog Rows.addrAllRow.laid w) (hs : w.ShapedOpen Tryd.prog) : LdT w := ⟨MaxI.of_shape hs, ErrT.of_laid h, PowT.of_laid h⟩
def exA : List UInt8 := [111, 107, 32, 40, 49, 48, 44, 48, 44, 48, 44, 49, 44, 52, 44, 49, 41, 46]
theorem exA_six : pasvL exA = some ⟨10, 0, 0, 1, 1025⟩ := by kernel_rfl
set_option maxHeartbeats 2000000 in
set_option maxRecDepth 100000 in
theorem shown_calls (w : World) (hL : LdT w) : Calls Tryd.prog 8 #[] w fun en w' => en = .returned (.bool true) ∧ Kept w w' NoB := by
  have hp := pasv_calls w exA (by decide) hL.m hL.e
  unfold PasvPost at hp
  rw [exA_six, show adR (some ⟨10, 0, 0, 1, 1025⟩) = .tuple #[.agg #[.int .i64 10, .int .i64 0, .int .i64 0, .int .i64 1, .int .i64 1025], .bool true] from rfl] at hp
  have HP := Lib.hid hp
  clear hp hL
  go_enter Tryd.func8, Tryd.ntmps8
  go_wp2_with fail
  refine HP.out.mono ?_
  rintro en w1 ⟨rfl, hk1⟩
  have HK := Lib.hid hk1
  clear hk1
  go_wp2_with fail
  go_ret
  exact ⟨rfl, (HK.out.alloc _).alloc _⟩
theorem short_calls (w : World) (l : List UInt8) (hl : l.length ≤ 140737488351232) :
    Calls Tryd.prog 14 #[.string (strB l)] w fun en w' => en = .returned (.string (strB (l.take 200))) ∧ w' = w := by
  rcases Nat.lt_or_ge 200 l.length with h | h
  · have t1 : (200 : Int) < (l.length : Int) := by omega
    have t2 : (200 : Int) ≤ (l.length : Int) := by omega
    have e : (strB l).extract 0 200 = strB (l.take 200) := by rw [ix_cut]; simp
    go_enter Tryd.func14, Tryd.ntmps14
    go_wp2_with fail
    go_ret
    exact ⟨rfl, rfl⟩
  · have t1 : ¬ (200 : Int) < (l.length : Int) := by omega
    have e : l.take 200 = l := List.take_of_length_le h
    rw [e]
    clear e
    go_enter Tryd.func14, Tryd.ntmps14
    go_wp2_with fail
    go_ret
    exact ⟨rfl, rfl⟩
theorem adR_form (o : Option AdL) : ∃ a b c d p ok, adR o = .tuple #[.agg #[.int .i64 a, .int .i64 b, .int .i64 c, .int .i64 d, .int .i64 p], .bool ok] := by
  cases o with
  | none => exact ⟨_, _, _, _, _, _, rfl⟩
  | some x => exact ⟨_, _, _, _, _, _, rfl⟩
end Go.Proofs.YtlbipnfnimekfaaDoor
