/- Addresses: a pair of numbers as a complex one, and back; the program's Pasv. -/
import Derived.Test.YtlbipnfnimekfaaDoorAddrW
import Derived.Laws.FloatArith
import Derived.Laws.Cover3
import Derived.Laws.StructEq
import Derived.Deep.RegionHeld3
set_option linter.unusedVariables false
set_option linter.unusedSimpArgs false
namespace Go.Proofs.YtlbipnfnimekfaaDoor
open Go.RowKit Go.Shelf

theorem float_back : ∀ n : Fin 256, floatToIntVal .f64 (floatOfInt .f64 (n.val : Int)) .i64 = some (n.val : Int) := by decide +kernel
@[irreducible] def flB (n : Int) : Nat := floatOfInt .f64 n
theorem to_float (w : World) (n : Int) : (convert 3 59 (.int .i64 n)).run Tryd.prog w = .ok (.float .f64 (flB n)) w := by
  unfold flB
  exact run_convert_int_float w 3 59 .i64 .f64 n (by rw [Tryd.underlying3]; rfl) Tryd.underlying59
theorem to_int (w : World) (n : Int) (h0 : 0 ≤ n) (h : n < 256) : (convert 59 3 (.float .f64 (flB n))).run Tryd.prog w = .ok (.int .i64 n) w := by
  unfold flB
  have hb := float_back ⟨n.toNat, by omega⟩
  simp only [Int.toNat_of_nonneg h0] at hb
  exact run_convert_float_int w 59 3 .f64 .i64 _ n (by rw [Tryd.underlying59]; rfl) Tryd.underlying3 hb
theorem pair_calls (w : World) (a b : Int) : Calls Tryd.prog 20 #[.int .i64 a, .int .i64 b] w fun en w' => en = .returned (.complex .f64 (flB a) (flB b)) ∧ w = w' := by
  have ha := to_float w a
  have hb := to_float w b
  go_enter Tryd.func20, Tryd.ntmps20
  go_wp2_with fail
  go_ret
  exact ⟨rfl, rfl⟩
theorem port_calls (w : World) (a b : Int) (ha : 0 ≤ a ∧ a < 256) (hb : 0 ≤ b ∧ b < 256) : Calls Tryd.prog 19 #[.complex .f64 (flB a) (flB b)] w fun en w' => en = .returned (.int .i64 (a * 256 + b)) ∧ w = w' := by
  have h1 := to_int w a ha.1 ha.2
  have h2 := to_int w b hb.1 hb.2
  obtain ⟨ha0, ha1⟩ := ha
  obtain ⟨hb0, hb1⟩ := hb
  go_enter Tryd.func19, Tryd.ntmps19
  go_wp2_with fail
  go_ret
  exact ⟨rfl, rfl⟩
@[go_sem] theorem gAd : Tryd.prog.eqGuardType Tryd.prog.depth 29 = false := by kernel_rfl
@[go_sem] theorem eqA4 (a b c d a' b' c' d' : Int) (w : World) : (Op.equalIn 9999 27 (.agg #[.int .i64 a, .int .i64 b, .int .i64 c, .int .i64 d]) (.agg #[.int .i64 a', .int .i64 b', .int .i64 c', .int .i64 d'])).run Tryd.prog w = .ok (a == a' && (b == b' && (c == c' && d == d'))) w := by
  have us := Tryd.underlying3
  have ua := Tryd.underlying27
  have ias := Tryd.isAgg3
  have zs := Tryd.sizeOf3
  rw [show (9999 : Nat) = 9998 + 1 from rfl, Op.equalIn]
  simp only [Sem.run_bind, run_underlying ua, Result.andThen_ok]
  simp only [Std.Legacy.Range.forIn_eq_forIn_range', Std.Legacy.Range.size, Nat.sub_zero, Nat.add_sub_cancel, Nat.div_one, List.range'_succ, List.range'_zero, List.forIn_cons, List.forIn_nil]
  go_simp
  by_cases h1 : a = a' <;> by_cases h2 : b = b' <;> by_cases h3 : c = c' <;> by_cases h4 : d = d' <;> simp [h1, h2, h3, h4]
end Go.Proofs.YtlbipnfnimekfaaDoor
