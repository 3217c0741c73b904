/- math.Abs, Floor, Sin at what digest.sine asks, and digest.sine. -/
import Derived.Test.YthnebhnlkjkcmaaDoorW
import Derived.Test.YthnebhnlkjkcmaaDoorSinT
import Derived.Laws.FloatArith
import Derived.Laws.Cover2
import Derived.Laws.Cover3
import Derived.Laws.Externs
set_option linter.unusedVariables false
set_option linter.unusedSimpArgs false
namespace Go.Proofs.YthnebhnlkjkcmaaDoor
open Go.RowKit

theorem abs_calls (w : World) (x y : Nat) (h : bits .andNot .u64 ((x : Nat) : Int) 9223372036854775808 = ((y : Nat) : Int)) : Calls Tryd.prog 80 #[.float .f64 x] w fun en w' => en = .returned (.float .f64 y) ∧ w = w' := by
  have h1 : (callFunc 85 #[.float .f64 x]).run Tryd.prog w = .ok (.value (.int .u64 (x : Int))) w := by
    rw [run_callFunc_extern Tryd.func85 (by rfl) (by rfl) (by rfl) (e := Extern.MathFloatBits.float64bits) (by rfl)]
    rfl
  have h2 : (callFunc 84 #[.int .u64 (y : Int)]).run Tryd.prog w = .ok (.value (.float .f64 y)) w := by
    rw [run_callFunc_extern Tryd.func84 (by rfl) (by rfl) (by rfl) (e := Extern.MathFloatBits.float64frombits) (by rfl)]
    rfl
  go_enter Tryd.func80, Tryd.ntmps80
  go_wp2_with fail
  go_ret
  exact ⟨rfl, rfl⟩
set_option maxRecDepth 100000 in
theorem floor_calls (w : World) (x y : Nat) (h : FloatKind.f64.encode ((FloatKind.f64.decode x).integral .down) = y) (hn : (match FloatKind.f64.decode x with | .nan _ _ => false | _ => true) = true) :
    Calls Tryd.prog 79 #[.float .f64 x] w fun en w' => en = .returned (.float .f64 y) ∧ w = w' := by
  have h1 : (callFunc 82 #[.float .f64 x]).run Tryd.prog w = .ok (.value (.float .f64 y)) w := by
    rw [run_callFunc_extern Tryd.func82 (by rfl) (by rfl) (by rfl) (e := Extern.MathFloor.toIntegral "math.archFloor" .down) (by rfl)]
    rw [← h]
    have e : Extern.MathFloor.toIntegral "math.archFloor" .down #[.float .f64 x] = (match FloatKind.f64.decode x with
      | .nan s t =>
        if FloatKind.f64.format.quiet t = t then pure (.float .f64 x) else do
        let kept ← choose (.extern "math.Floor,Ceil,Trunc,RoundToEven.signallingNaN kept" 2)
        pure (.float .f64 (if kept == 1 then x else FloatKind.f64.encode (.nan s (FloatKind.f64.format.quiet t))))
      | d => pure (.float .f64 (FloatKind.f64.encode (d.integral .down)))) := rfl
    rw [e]
    cases hd : FloatKind.f64.decode x with
    | nan s t => rw [hd] at hn; cases hn
    | infinity s => rfl
    | number s m e => rfl
  clear h hn
  go_enter Tryd.func79, Tryd.ntmps79
  go_wp2_with fail
  go_ret
  exact ⟨rfl, rfl⟩
theorem isnan_calls (w : World) (x : Nat) (h : (FloatKind.f64.format.order x x != some .eq) = false) : Calls Tryd.prog 88 #[.float .f64 x] w fun en w' => en = .returned (.bool false) ∧ w = w' := by
  go_enter Tryd.func88, Tryd.ntmps88
  go_wp2_with fail
  go_ret
  exact ⟨by first | rfl | rw [h] | simp [h], rfl⟩
theorem isinf_calls (w : World) (x : Nat) (h : bits .andNot .u64 ((x : Nat) : Int) 9223372036854775808 = ((x : Nat) : Int)) (hi : (FloatKind.f64.format.order x 9218868437227405311 == some .gt) = false) :
    Calls Tryd.prog 89 #[.float .f64 x, .int .i64 0] w fun en w' => en = .returned (.bool false) ∧ w = w' := by
  have ha := Lib.hid (abs_calls w x x h)
  clear h
  go_enter Tryd.func89, Tryd.ntmps89
  go_wp2_with fail
  refine ha.out.mono ?_
  rintro en _ ⟨rfl, rfl⟩
  go_wp2_with fail
  go_ret
  exact ⟨by first | rfl | rw [hi] | simp [hi], rfl⟩
/-- The tables of math.Sin are there. -/
def SinC (w : World) : Prop := w.cell? ⟨4, 0, none⟩ = some (.float .f64 13666448263388469915) ∧ w.cell? ⟨4, 1, none⟩ = some (.float .f64 4477121864728985349) ∧ w.cell? ⟨4, 2, none⟩ = some (.float .f64 13732177093698800582) ∧ w.cell? ⟨4, 3, none⟩ = some (.float .f64 4537941361668146421) ∧ w.cell? ⟨4, 4, none⟩ = some (.float .f64 13787419979223748497) ∧ w.cell? ⟨4, 5, none⟩ = some (.float .f64 4586165620538955083) ∧ w.cell? ⟨5, 0, none⟩ = some (.float .f64 4460209587652500685) ∧ w.cell? ⟨5, 1, none⟩ = some (.float .f64 13716528389658582877) ∧ w.cell? ⟨5, 2, none⟩ = some (.float .f64 4523617212962785441) ∧ w.cell? ⟨5, 3, none⟩ = some (.float .f64 13774824197404483331) ∧ w.cell? ⟨5, 4, none⟩ = some (.float .f64 4575957461383575504) ∧ w.cell? ⟨5, 5, none⟩ = some (.float .f64 13818544856648471880)
theorem SinC.kept {w w' : World} {S : Nat → Prop} (h : SinC w) (k : Kept w w' S) (h2 : ¬ S 4) (h3 : ¬ S 5) : SinC w' := by
  obtain ⟨c0, c1, c2, c3, c4, c5, c6, c7, c8, c9, c10, c11⟩ := h
  exact ⟨k.cell c0 h2, k.cell c1 h2, k.cell c2 h2, k.cell c3 h2, k.cell c4 h2, k.cell c5 h2, k.cell c6 h3, k.cell c7 h3, k.cell c8 h3, k.cell c9 h3, k.cell c10 h3, k.cell c11 h3⟩
theorem SinC.kept0 {w w' : World} (h : SinC w) (k : Kept w w' NoB) : SinC w' := h.kept k (fun x => x) (fun x => x)
def RO (o : BinOp) (x y r : Nat) : Prop := floatBits o .f64 x y = some r
theorem RO.run {o : BinOp} {x y r : Nat} (h : RO o x y r) (t : TypeId) (w : World) : (binOp o t (.float .f64 x) (.float .f64 y)).run Tryd.prog w = .ok (.float .f64 r) w := run_float_arith w o t .f64 x y r h
@[go_sem] theorem neg_run (x : Nat) : Op.unary .neg (.float .f64 x) = pure (.float .f64 (Op.negFloat .f64 x)) := rfl

set_option maxHeartbeats 8000000 in
set_option maxRecDepth 100000 in
theorem sin_walk (w : World) (x t1 y0 y1 a1 b1 a2 b2 a3 z zz q0 q1 q2 q3 q4 q5 q6 q7 q8 q9 p1 p2 p3 p4 r r2 : Nat) (j j1 j2 j3 : Nat) (od ng co : Bool) (hC : SinC w)
    (e0 : (FloatKind.f64.format.order x 0 == some .eq) = false)
    (l0 : (FloatKind.f64.format.order x 0 == some .lt) = false)
    (gL : (FloatKind.f64.format.order x 4737786807993761792 == some .gt) = false)
    (gE : (FloatKind.f64.format.order x 4737786807993761792 == some .eq) = false)
    (hinf : (FloatKind.f64.format.order x 9218868437227405311 == some .gt) = false)
    (hnan : (FloatKind.f64.format.order x x != some .eq) = false)
    (habs : bits .andNot .u64 ((x : Nat) : Int) 9223372036854775808 = ((x : Nat) : Int))
    (h1 : RO .mul x 4608412980311869571 t1)
    (hj : floatToIntVal .f64 t1 .u64 = some (j : Int))
    (hy0 : floatOfInt .f64 (j : Int) = y0)
    (hod : bits .and .u64 (j : Int) 1 = if od = true then 1 else 0)
    (hy1 : od = true → RO .add y0 4607182418800017408 y1)
    (hy1e : od = false → y1 = y0)
    (hj1 : j1 = (if od = true then j + 1 else j) ∧ j < 100)
    (hj2 : bits .and .u64 (j1 : Int) 7 = (j2 : Int))
    (ha1 : RO .mul y1 4605249456957292544 a1)
    (hb1 : RO .sub x a1 b1)
    (ha2 : RO .mul y1 4495793288086814720 a2)
    (hb2 : RO .sub b1 a2 b2)
    (ha3 : RO .mul y1 4388835458085048688 a3)
    (hz : RO .sub b2 a3 z)
    (hng : decide (3 < j2) = ng)
    (hj3 : (ng = true → j2 = j3 + 4) ∧ (ng = false → j2 = j3))
    (hzz : RO .mul z z zz)
    (hco : (co = true → j3 = 2) ∧ (co = false → j3 = 0))
    (hc0 : co = true → RO .mul 13666448263388469915 zz q0)
    (hc1 : co = true → RO .add q0 4477121864728985349 q1)
    (hc2 : co = true → RO .mul q1 zz q2)
    (hc3 : co = true → RO .add q2 13732177093698800582 q3)
    (hc4 : co = true → RO .mul q3 zz q4)
    (hc5 : co = true → RO .add q4 4537941361668146421 q5)
    (hc6 : co = true → RO .mul q5 zz q6)
    (hc7 : co = true → RO .add q6 13787419979223748497 q7)
    (hc8 : co = true → RO .mul q7 zz q8)
    (hc9 : co = true → RO .add q8 4586165620538955083 q9)
    (hs0 : co = false → RO .mul 4460209587652500685 zz q0)
    (hs1 : co = false → RO .add q0 13716528389658582877 q1)
    (hs2 : co = false → RO .mul q1 zz q2)
    (hs3 : co = false → RO .add q2 4523617212962785441 q3)
    (hs4 : co = false → RO .mul q3 zz q4)
    (hs5 : co = false → RO .add q4 13774824197404483331 q5)
    (hs6 : co = false → RO .mul q5 zz q6)
    (hs7 : co = false → RO .add q6 4575957461383575504 q7)
    (hs8 : co = false → RO .mul q7 zz q8)
    (hs9 : co = false → RO .add q8 13818544856648471880 q9)
    (gp1 : co = true → RO .mul 4602678819172646912 zz p1)
    (gp2 : co = true → RO .sub 4607182418800017408 p1 p2)
    (gp3 : co = true → RO .mul zz zz p3)
    (gp4 : co = true → RO .mul p3 q9 p4)
    (gr : co = true → RO .add p2 p4 r)
    (fp1 : co = false → RO .mul z zz p1)
    (fp2 : co = false → RO .mul p1 q9 p2)
    (fr : co = false → RO .add z p2 r)
    (hr2 : r2 = if ng = true then Op.negFloat .f64 r else r) :
    Calls Tryd.prog 87 #[.float .f64 x] w fun en w' => en = .returned (.float .f64 r2) ∧ w = w' := by
  obtain ⟨c0, c1, c2, c3, c4, c5, c6, c7, c8, c9, c10, c11⟩ := hC
  have HNAN := Lib.hid (isnan_calls w x hnan)
  have HINF := Lib.hid (isinf_calls w x habs hinf)
  clear hnan habs hinf
  have r1 := h1.run
  have ra1 := ha1.run
  have rb1 := hb1.run
  have ra2 := ha2.run
  have rb2 := hb2.run
  have ra3 := ha3.run
  have rz := hz.run
  have rzz := hzz.run
  clear h1 ha1 hb1 ha2 hb2 ha3 hz hzz
  have rj : ∀ W : World, (convert 105 66 (.float .f64 t1)).run Tryd.prog W = .ok (.int .u64 (j : Int)) W := fun W => run_convert_float_int W 105 66 .f64 .u64 t1 j (by rw [Tryd.underlying105]; rfl) Tryd.underlying66 hj
  have ry : ∀ W : World, (convert 66 105 (.int .u64 (j : Int))).run Tryd.prog W = .ok (.float .f64 y0) W := fun W => by
    rw [← hy0]
    exact run_convert_int_float W 66 105 .u64 .f64 j (by rw [Tryd.underlying66]; rfl) Tryd.underlying105
  clear hj hy0
  obtain ⟨hj1, hjb⟩ := hj1
  have hjb' : (j : Int) < 100 := by omega
  have hj0 : (0 : Int) ≤ (j : Int) := by omega
  cases od with
  | true =>
    have ry1 := (hy1 rfl).run
    rw [if_pos rfl] at hod hj1
    have hjj : (j : Int) + 1 = (j1 : Int) := by omega
    have hoe : ((1 : Int) == 1) = true := rfl
    clear hj1
    clear hy1 hy1e
    cases ng with
    | true =>
      have hg3 : (3 : Int) < (j2 : Int) := by have := of_decide_eq_true hng; omega
      have h24 := hj3.1 rfl
      have hs4 : (j2 : Int) - 4 = (j3 : Int) := by omega
      rw [if_pos rfl] at hr2
      subst hr2
      clear hng hj3
      cases co with
      | true =>
        have hv := hco.1 rfl
        subst hv
        have e21 : ((2 : Int) == 1) = false := rfl
        have e22 : ((2 : Int) == 2) = true := rfl
        have hj24 : j2 = 6 := by omega
        subst hj24
        clear hs4 h24
        have rq0 := (hc0 rfl).run
        have rq1 := (hc1 rfl).run
        have rq2 := (hc2 rfl).run
        have rq3 := (hc3 rfl).run
        have rq4 := (hc4 rfl).run
        have rq5 := (hc5 rfl).run
        have rq6 := (hc6 rfl).run
        have rq7 := (hc7 rfl).run
        have rq8 := (hc8 rfl).run
        have rq9 := (hc9 rfl).run
        have rgp1 := (gp1 rfl).run
        have rgp2 := (gp2 rfl).run
        have rgp3 := (gp3 rfl).run
        have rgp4 := (gp4 rfl).run
        have rgr := (gr rfl).run
        clear hco hc0 hs0 hc1 hs1 hc2 hs2 hc3 hs3 hc4 hs4 hc5 hs5 hc6 hs6 hc7 hs7 hc8 hs8 hc9 hs9 gp1 gp2 gp3 gp4 gr fp1 fp2 fr
        go_enter Tryd.func87, Tryd.ntmps87
        go_wp2_with fail
        refine HNAN.out.mono ?_
        rintro en _ ⟨rfl, rfl⟩
        go_wp2_with fail
        refine HINF.out.mono ?_
        rintro en _ ⟨rfl, rfl⟩
        go_wp2_with fail
        go_ret
        exact ⟨rfl, rfl⟩
      | false =>
        have hv := hco.2 rfl
        subst hv
        have e21 : ((0 : Int) == 1) = false := rfl
        have e22 : ((0 : Int) == 2) = false := rfl
        have hj24 : j2 = 4 := by omega
        subst hj24
        clear hs4 h24
        have rq0 := (hs0 rfl).run
        have rq1 := (hs1 rfl).run
        have rq2 := (hs2 rfl).run
        have rq3 := (hs3 rfl).run
        have rq4 := (hs4 rfl).run
        have rq5 := (hs5 rfl).run
        have rq6 := (hs6 rfl).run
        have rq7 := (hs7 rfl).run
        have rq8 := (hs8 rfl).run
        have rq9 := (hs9 rfl).run
        have rfp1 := (fp1 rfl).run
        have rfp2 := (fp2 rfl).run
        have rfr := (fr rfl).run
        clear hco hc0 hs0 hc1 hs1 hc2 hs2 hc3 hs3 hc4 hs4 hc5 hs5 hc6 hs6 hc7 hs7 hc8 hs8 hc9 hs9 gp1 gp2 gp3 gp4 gr fp1 fp2 fr
        go_enter Tryd.func87, Tryd.ntmps87
        go_wp2_with fail
        refine HNAN.out.mono ?_
        rintro en _ ⟨rfl, rfl⟩
        go_wp2_with fail
        refine HINF.out.mono ?_
        rintro en _ ⟨rfl, rfl⟩
        go_wp2_with fail
        go_ret
        exact ⟨rfl, rfl⟩
    | false =>
      have hg3 : ¬ (3 : Int) < (j2 : Int) := by have := of_decide_eq_false hng; omega
      have h24 := hj3.2 rfl
      subst h24
      rw [if_neg (by simp)] at hr2
      subst hr2
      clear hng hj3
      cases co with
      | true =>
        have hv := hco.1 rfl
        subst hv
        have e21 : ((2 : Int) == 1) = false := rfl
        have e22 : ((2 : Int) == 2) = true := rfl
        have rq0 := (hc0 rfl).run
        have rq1 := (hc1 rfl).run
        have rq2 := (hc2 rfl).run
        have rq3 := (hc3 rfl).run
        have rq4 := (hc4 rfl).run
        have rq5 := (hc5 rfl).run
        have rq6 := (hc6 rfl).run
        have rq7 := (hc7 rfl).run
        have rq8 := (hc8 rfl).run
        have rq9 := (hc9 rfl).run
        have rgp1 := (gp1 rfl).run
        have rgp2 := (gp2 rfl).run
        have rgp3 := (gp3 rfl).run
        have rgp4 := (gp4 rfl).run
        have rgr := (gr rfl).run
        clear hco hc0 hs0 hc1 hs1 hc2 hs2 hc3 hs3 hc4 hs4 hc5 hs5 hc6 hs6 hc7 hs7 hc8 hs8 hc9 hs9 gp1 gp2 gp3 gp4 gr fp1 fp2 fr
        go_enter Tryd.func87, Tryd.ntmps87
        go_wp2_with fail
        refine HNAN.out.mono ?_
        rintro en _ ⟨rfl, rfl⟩
        go_wp2_with fail
        refine HINF.out.mono ?_
        rintro en _ ⟨rfl, rfl⟩
        go_wp2_with fail
        go_ret
        exact ⟨rfl, rfl⟩
      | false =>
        have hv := hco.2 rfl
        subst hv
        have e21 : ((0 : Int) == 1) = false := rfl
        have e22 : ((0 : Int) == 2) = false := rfl
        have rq0 := (hs0 rfl).run
        have rq1 := (hs1 rfl).run
        have rq2 := (hs2 rfl).run
        have rq3 := (hs3 rfl).run
        have rq4 := (hs4 rfl).run
        have rq5 := (hs5 rfl).run
        have rq6 := (hs6 rfl).run
        have rq7 := (hs7 rfl).run
        have rq8 := (hs8 rfl).run
        have rq9 := (hs9 rfl).run
        have rfp1 := (fp1 rfl).run
        have rfp2 := (fp2 rfl).run
        have rfr := (fr rfl).run
        clear hco hc0 hs0 hc1 hs1 hc2 hs2 hc3 hs3 hc4 hs4 hc5 hs5 hc6 hs6 hc7 hs7 hc8 hs8 hc9 hs9 gp1 gp2 gp3 gp4 gr fp1 fp2 fr
        go_enter Tryd.func87, Tryd.ntmps87
        go_wp2_with fail
        refine HNAN.out.mono ?_
        rintro en _ ⟨rfl, rfl⟩
        go_wp2_with fail
        refine HINF.out.mono ?_
        rintro en _ ⟨rfl, rfl⟩
        go_wp2_with fail
        go_ret
        exact ⟨rfl, rfl⟩
  | false =>
    obtain rfl := hy1e rfl
    rw [if_neg (by simp)] at hod hj1
    obtain rfl := hj1
    have hoe : ((0 : Int) == 1) = false := rfl
    clear hy1 hy1e
    cases ng with
    | true =>
      have hg3 : (3 : Int) < (j2 : Int) := by have := of_decide_eq_true hng; omega
      have h24 := hj3.1 rfl
      have hs4 : (j2 : Int) - 4 = (j3 : Int) := by omega
      rw [if_pos rfl] at hr2
      subst hr2
      clear hng hj3
      cases co with
      | true =>
        have hv := hco.1 rfl
        subst hv
        have e21 : ((2 : Int) == 1) = false := rfl
        have e22 : ((2 : Int) == 2) = true := rfl
        have hj24 : j2 = 6 := by omega
        subst hj24
        clear hs4 h24
        have rq0 := (hc0 rfl).run
        have rq1 := (hc1 rfl).run
        have rq2 := (hc2 rfl).run
        have rq3 := (hc3 rfl).run
        have rq4 := (hc4 rfl).run
        have rq5 := (hc5 rfl).run
        have rq6 := (hc6 rfl).run
        have rq7 := (hc7 rfl).run
        have rq8 := (hc8 rfl).run
        have rq9 := (hc9 rfl).run
        have rgp1 := (gp1 rfl).run
        have rgp2 := (gp2 rfl).run
        have rgp3 := (gp3 rfl).run
        have rgp4 := (gp4 rfl).run
        have rgr := (gr rfl).run
        clear hco hc0 hs0 hc1 hs1 hc2 hs2 hc3 hs3 hc4 hs4 hc5 hs5 hc6 hs6 hc7 hs7 hc8 hs8 hc9 hs9 gp1 gp2 gp3 gp4 gr fp1 fp2 fr
        go_enter Tryd.func87, Tryd.ntmps87
        go_wp2_with fail
        refine HNAN.out.mono ?_
        rintro en _ ⟨rfl, rfl⟩
        go_wp2_with fail
        refine HINF.out.mono ?_
        rintro en _ ⟨rfl, rfl⟩
        go_wp2_with fail
        go_ret
        exact ⟨rfl, rfl⟩
      | false =>
        have hv := hco.2 rfl
        subst hv
        have e21 : ((0 : Int) == 1) = false := rfl
        have e22 : ((0 : Int) == 2) = false := rfl
        have hj24 : j2 = 4 := by omega
        subst hj24
        clear hs4 h24
        have rq0 := (hs0 rfl).run
        have rq1 := (hs1 rfl).run
        have rq2 := (hs2 rfl).run
        have rq3 := (hs3 rfl).run
        have rq4 := (hs4 rfl).run
        have rq5 := (hs5 rfl).run
        have rq6 := (hs6 rfl).run
        have rq7 := (hs7 rfl).run
        have rq8 := (hs8 rfl).run
        have rq9 := (hs9 rfl).run
        have rfp1 := (fp1 rfl).run
        have rfp2 := (fp2 rfl).run
        have rfr := (fr rfl).run
        clear hco hc0 hs0 hc1 hs1 hc2 hs2 hc3 hs3 hc4 hs4 hc5 hs5 hc6 hs6 hc7 hs7 hc8 hs8 hc9 hs9 gp1 gp2 gp3 gp4 gr fp1 fp2 fr
        go_enter Tryd.func87, Tryd.ntmps87
        go_wp2_with fail
        refine HNAN.out.mono ?_
        rintro en _ ⟨rfl, rfl⟩
        go_wp2_with fail
        refine HINF.out.mono ?_
        rintro en _ ⟨rfl, rfl⟩
        go_wp2_with fail
        go_ret
        exact ⟨rfl, rfl⟩
    | false =>
      have hg3 : ¬ (3 : Int) < (j2 : Int) := by have := of_decide_eq_false hng; omega
      have h24 := hj3.2 rfl
      subst h24
      rw [if_neg (by simp)] at hr2
      subst hr2
      clear hng hj3
      cases co with
      | true =>
        have hv := hco.1 rfl
        subst hv
        have e21 : ((2 : Int) == 1) = false := rfl
        have e22 : ((2 : Int) == 2) = true := rfl
        have rq0 := (hc0 rfl).run
        have rq1 := (hc1 rfl).run
        have rq2 := (hc2 rfl).run
        have rq3 := (hc3 rfl).run
        have rq4 := (hc4 rfl).run
        have rq5 := (hc5 rfl).run
        have rq6 := (hc6 rfl).run
        have rq7 := (hc7 rfl).run
        have rq8 := (hc8 rfl).run
        have rq9 := (hc9 rfl).run
        have rgp1 := (gp1 rfl).run
        have rgp2 := (gp2 rfl).run
        have rgp3 := (gp3 rfl).run
        have rgp4 := (gp4 rfl).run
        have rgr := (gr rfl).run
        clear hco hc0 hs0 hc1 hs1 hc2 hs2 hc3 hs3 hc4 hs4 hc5 hs5 hc6 hs6 hc7 hs7 hc8 hs8 hc9 hs9 gp1 gp2 gp3 gp4 gr fp1 fp2 fr
        go_enter Tryd.func87, Tryd.ntmps87
        go_wp2_with fail
        refine HNAN.out.mono ?_
        rintro en _ ⟨rfl, rfl⟩
        go_wp2_with fail
        refine HINF.out.mono ?_
        rintro en _ ⟨rfl, rfl⟩
        go_wp2_with fail
        go_ret
        exact ⟨rfl, rfl⟩
      | false =>
        have hv := hco.2 rfl
        subst hv
        have e21 : ((0 : Int) == 1) = false := rfl
        have e22 : ((0 : Int) == 2) = false := rfl
        have rq0 := (hs0 rfl).run
        have rq1 := (hs1 rfl).run
        have rq2 := (hs2 rfl).run
        have rq3 := (hs3 rfl).run
        have rq4 := (hs4 rfl).run
        have rq5 := (hs5 rfl).run
        have rq6 := (hs6 rfl).run
        have rq7 := (hs7 rfl).run
        have rq8 := (hs8 rfl).run
        have rq9 := (hs9 rfl).run
        have rfp1 := (fp1 rfl).run
        have rfp2 := (fp2 rfl).run
        have rfr := (fr rfl).run
        clear hco hc0 hs0 hc1 hs1 hc2 hs2 hc3 hs3 hc4 hs4 hc5 hs5 hc6 hs6 hc7 hs7 hc8 hs8 hc9 hs9 gp1 gp2 gp3 gp4 gr fp1 fp2 fr
        go_enter Tryd.func87, Tryd.ntmps87
        go_wp2_with fail
        refine HNAN.out.mono ?_
        rintro en _ ⟨rfl, rfl⟩
        go_wp2_with fail
        refine HINF.out.mono ?_
        rintro en _ ⟨rfl, rfl⟩
        go_wp2_with fail
        go_ret
        exact ⟨rfl, rfl⟩
theorem Sin_calls (w : World) (i : Fin 64) (hC : SinC w) : Calls Tryd.prog 81 #[.float .f64 (s_x.getD i.val 0)] w fun en w' => en = .returned (.float .f64 (s_r2.getD i.val 0)) ∧ w = w' := by
  have h := sin_walk w (s_x.getD i.val 0) (s_t1.getD i.val 0) (s_y0.getD i.val 0) (s_y1.getD i.val 0) (s_a1.getD i.val 0) (s_b1.getD i.val 0) (s_a2.getD i.val 0) (s_b2.getD i.val 0) (s_a3.getD i.val 0) (s_z.getD i.val 0) (s_zz.getD i.val 0) (s_q0.getD i.val 0) (s_q1.getD i.val 0) (s_q2.getD i.val 0) (s_q3.getD i.val 0) (s_q4.getD i.val 0) (s_q5.getD i.val 0) (s_q6.getD i.val 0) (s_q7.getD i.val 0) (s_q8.getD i.val 0) (s_q9.getD i.val 0) (s_p1.getD i.val 0) (s_p2.getD i.val 0) (s_p3.getD i.val 0) (s_p4.getD i.val 0) (s_r.getD i.val 0) (s_r2.getD i.val 0) (s_j.getD i.val 0) (s_j1.getD i.val 0) (s_j2.getD i.val 0) (s_j3.getD i.val 0) (s_od.getD i.val false) (s_ng.getD i.val false) (s_co.getD i.val false) hC
    (k_eq0 i) (k_lt0 i) (k_geL i) (k_geE i) (k_inf i) (k_nan i) (k_abs i) (k_t1 i) (k_j i) (k_y0 i) (k_od i) (k_y1 i) (k_y1e i) (k_j1 i) (k_j2 i) (k_a1 i) (k_b1 i) (k_a2 i) (k_b2 i) (k_a3 i) (k_z i) (k_ng i) (k_j3 i) (k_zz i) (k_co i) (k_c0 i) (k_c1 i) (k_c2 i) (k_c3 i) (k_c4 i) (k_c5 i) (k_c6 i) (k_c7 i) (k_c8 i) (k_c9 i) (k_s0 i) (k_s1 i) (k_s2 i) (k_s3 i) (k_s4 i) (k_s5 i) (k_s6 i) (k_s7 i) (k_s8 i) (k_s9 i) (k_cp1 i) (k_cp2 i) (k_cp3 i) (k_cp4 i) (k_cr i) (k_sp1 i) (k_sp2 i) (k_sr i) (k_r2 i)
  obtain ⟨x, hx⟩ : ∃ x, s_x.getD i.val 0 = x := ⟨_, rfl⟩
  obtain ⟨r, hr⟩ : ∃ r, s_r2.getD i.val 0 = r := ⟨_, rfl⟩
  rw [hx, hr] at h
  rw [hx, hr]
  have H := Lib.hid h
  clear h hx hr
  go_enter Tryd.func81, Tryd.ntmps81
  go_wp2_with fail
  refine H.out.mono ?_
  rintro en _ ⟨rfl, rfl⟩
  go_wp2_with fail
  go_ret
  exact ⟨rfl, rfl⟩
theorem sine_calls (w : World) (i : Nat) (hi : i < 64) (hC : SinC w) : Calls Tryd.prog 73 #[.int .i64 (i : Int)] w fun en w' => en = .returned (.int .u32 ((sineN i : Nat) : Int)) ∧ w = w' := by
  have kx := k_x ⟨i, hi⟩
  have hS := Lib.hid (Sin_calls w ⟨i, hi⟩ hC)
  have hA := Lib.hid (abs_calls w _ _ (k_m ⟨i, hi⟩))
  have hF := Lib.hid (floor_calls w _ _ (k_f ⟨i, hi⟩) (k_fn ⟨i, hi⟩))
  have rp := (show RO .mul _ _ _ from k_pr ⟨i, hi⟩).run
  have ks := k_s ⟨i, hi⟩
  unfold sineN
  simp only at kx hS hA hF rp ks
  obtain ⟨x, hx⟩ : ∃ x, s_x.getD i 0 = x := ⟨_, rfl⟩
  obtain ⟨r, hr⟩ : ∃ x, s_r2.getD i 0 = x := ⟨_, rfl⟩
  obtain ⟨m, hm⟩ : ∃ x, s_m.getD i 0 = x := ⟨_, rfl⟩
  obtain ⟨p, hp⟩ : ∃ x, s_pr.getD i 0 = x := ⟨_, rfl⟩
  obtain ⟨f, hf⟩ : ∃ x, s_f.getD i 0 = x := ⟨_, rfl⟩
  obtain ⟨s, hs⟩ : ∃ x, s_s.getD i 0 = x := ⟨_, rfl⟩
  rw [hx] at kx hS
  rw [hr] at hS hA
  rw [hm] at hA rp
  rw [hp] at rp hF
  rw [hf] at hF ks
  rw [hs] at ks ⊢
  have rx : ∀ W : World, (convert 3 105 (.int .i64 ((i : Int) + 1))).run Tryd.prog W = .ok (.float .f64 x) W := fun W => by
    rw [← kx]
    exact run_convert_int_float W 3 105 .i64 .f64 _ (by rw [Tryd.underlying3]; rfl) Tryd.underlying105
  have rs : ∀ W : World, (convert 105 63 (.float .f64 f)).run Tryd.prog W = .ok (.int .u32 (s : Int)) W := fun W => run_convert_float_int W 105 63 .f64 .u32 f s (by rw [Tryd.underlying105]; rfl) Tryd.underlying63 ks
  clear kx ks hx hr hm hp hf hs
  go_enter Tryd.func73, Tryd.ntmps73
  go_wp2_with fail
  refine hS.out.mono ?_
  rintro en _ ⟨rfl, rfl⟩
  go_wp2_with fail
  refine hA.out.mono ?_
  rintro en _ ⟨rfl, rfl⟩
  go_wp2_with fail
  refine hF.out.mono ?_
  rintro en _ ⟨rfl, rfl⟩
  go_wp2_with fail
  go_ret
  exact ⟨rfl, rfl⟩
end Go.Proofs.YthnebhnlkjkcmaaDoor
