/- Replies: the reference's One without a body: what it computes. (Printed by gen_repone.py.) -/
import Derived.Test.YtamemddgajmimaaDoorRepT
import Derived.Outline
set_option linter.unusedVariables false
set_option linter.unusedSimpArgs false
namespace Go.Proofs.YtamemddgajmimaaDoor
open Go.RowKit Go.Shelf

/-! ### Plain -/
abbrev StepR := Option Rp × Int × Option Rp
/-- The steps of a maker over lines, none of which but the last one ends or stops. -/
def runsE (p : Int) : Option Rp → List (List UInt8) → StepR → Prop
  | st, [], R => R = (none, 0, st)
  | st, s :: r, R => (∃ q, stepM p st s = (none, 0, some q) ∧ runsE p (some q) r R) ∨ (r = [] ∧ stepM p st s = R)
theorem runsE_go {p : Int} {st : Option Rp} {s : List UInt8} {r : List (List UInt8)} {R : StepR} {q : Rp} (h : runsE p st (s :: r) R) (hs : stepM p st s = (none, 0, some q)) : runsE p (some q) r R := by
  rcases h with ⟨q', h1, h2⟩ | ⟨rfl, h1⟩
  · rw [hs] at h1
    injection h1 with _ h1
    injection h1 with _ h1
    injection h1 with h1
    subst h1
    exact h2
  · rw [hs] at h1
    exact h1.symm
theorem runsE_stop {p : Int} {st : Option Rp} {s : List UInt8} {r : List (List UInt8)} {R : StepR} {a : Option Rp} {b : Int} {c : Option Rp} (h : runsE p st (s :: r) R) (hs : stepM p st s = (a, b, c)) (hn : a.isSome = true ∨ b ≠ 0) : r = [] ∧ R = (a, b, c) := by
  rcases h with ⟨q', h1, _⟩ | ⟨rfl, h1⟩
  · rw [hs] at h1
    injection h1 with e1 e2
    injection e2 with e2 e3
    subst e1 e2
    rcases hn with h | h
    · cases h
    · exact absurd rfl h
  · exact ⟨rfl, by rw [← h1, hs]⟩
theorem drop_cons {L : List (List UInt8)} {i : Nat} (h : i < L.length) : L.drop i = L[i] :: L.drop (i + 1) := List.drop_eq_getElem_cons h
theorem drop_nil_len {L : List (List UInt8)} {i : Nat} (h : i < L.length) (h1 : L.drop (i + 1) = []) : i + 1 = L.length := by
  have := congrArg List.length h1
  rw [List.length_drop, List.length_nil] at this
  omega
theorem results_cell_row4 {P : Program} {fn : Func} {p u x y : Tmp} {ty : TypeId} (h : fn.results = #[.cell p ty, .tmp u, .tmp x, .tmp y]) (tmps : Array Value) (w : World) (g : Nat) (t : TypeId) (cs : Array Value) (fr : Nat × Nat) (d : TypeDesc) (a b c : Value)
    (hp : tmps.getD p undef = .pointer (some ⟨g, 0, none⟩)) (ha : tmps.getD u undef = a) (hb : tmps.getD x undef = b) (hc : tmps.getD y undef = c) (hg : w.heap[g]? = some (.cells cs t fr))
    (hu : P.underlying ty = some d) (hd : (match d with | .struct _ | .array _ _ => true | _ => false) = true) (hi : (P.info? ty).map (·.size) = some cs.size) :
    (results fn tmps).run P w = .ok (.tuple #[.agg cs, a, b, c]) w := by
  have : (results fn tmps).run P w = ((asAddr (tmps.getD p undef)).run P w).andThen fun a w₁ => ((loadVar ty a).run P w₁).andThen fun v w₂ => .ok (.tuple #[v, tmps.getD u undef, tmps.getD x undef, tmps.getD y undef]) w₂ := by
    simp only [results, h]
    simp [Sem.run_bind, Result.andThen]
  rw [this, hp, ha, hb, hc]
  simp [asAddr, run_loadVar_row w g t ty cs fr d hg hu hd hi, Result.andThen]
theorem refStatus_at (w : World) (proto : Int) (s : List UInt8) (r : Option StV) (e : Value) (hl : s.length ≤ 1099511627776) (h : statusL proto s = r) (he : stR r = e) :
    Calls Tryd.prog 21 #[.int .i64 proto, .string (strB s)] w fun en w' => en = .returned e ∧ Kept w w' NoB := by
  subst h he
  exact refStatus_calls w proto s hl
/-- What One tells: as the maker's last step. -/
def OnePost (w : World) (n : Nat) (R : StepR) (en : Ending) (w' : World) : Prop :=
  ∃ vr nx, en = .returned (.tuple #[.agg #[.string (strB (rpV R.1).1), vr, .slice none 0 0], .int .i64 ((nx : Nat) : Int), .bool R.1.isSome, .int .i64 R.2.1]) ∧ (R.1.isSome = true ∨ R.2.1 ≠ 0 → nx = n) ∧ Row w' 9 (fun k => w.heap.size ≤ k) vr (strs (rpV R.1).2) ∧ Kept w w' NoB
def OneS (w0 : World) (p : Int) (c t : List UInt8) (m : Bool) (R SB RB : Nat) (L : List (List UInt8)) (res : StepR) (gk : Nat) (v15 : Value) (wr : World) : Prop :=
  ∃ (i : Nat) (acc : List (List UInt8)) (va : Value), i ≤ L.length ∧ gk = L.length - i ∧ v15 = .int .i64 (i : Int) ∧ runsE p (some (c, acc)) (L.drop i) res ∧ acc.length ≤ 20 ∧
    Blk wr R 30 #[.string ByteArray.empty, .slice none 0 0, .slice none 0 0] ∧ Blk wr SB 54 #[.string (strB c), .bool m, .string (strB t)] ∧ Blk wr RB 30 #[.string (strB c), va, .slice none 0 0] ∧
    Row wr 9 (fun k => w0.heap.size ≤ k) va (strs acc) ∧ Kept w0 wr NoB
theorem strB_nil : strB [] = ByteArray.empty := rfl
theorem Row.any {w : World} {e : TypeId} {S : Nat → Prop} {v : Value} {xs : List Value} (h : Row w e S v xs) : Row w e anyB v xs := h.mono fun _ _ _ => trivial

set_option maxHeartbeats 4000000 in
set_option maxRecDepth 100000 in
theorem refOne_calls (w : World) (p : Int) (S : Nat → Prop) (A : Option Addr) (n cap from_ : Nat) (L : List (List UInt8)) (body : Bool) (res : StepR) (hA : Reads w S A n (strs L)) (hn : n ≤ 1000000) (hfr : from_ < n) (hfl : from_ < L.length)
    (hel : ∀ x ∈ L, x.length ≤ 1099511627) (hrun : runsE p none (L.drop from_) res) (hbody : p = 2 → body = true → ∀ t, statusL p L[from_] ≠ some ([43], false, t)) :
    Calls Tryd.prog 13 #[.int .i64 p, .slice A n cap, .int .i64 (from_ : Int), .bool body] w (OnePost w n res) := by
  have hln : L.length = n := by have := hA.1; rwa [strs_length] at this
  rw [drop_cons hfl] at hrun
  obtain ⟨ad, u, hAd, hu, hcell⟩ := hA.at_ hfr
  subst hAd
  rw [strs_at L from_ hfl] at hu
  injection hu with hu
  subst hu
  have hxl := hel L[from_] (List.getElem_mem hfl)
  obtain ⟨x, hx⟩ : ∃ x, L[from_] = x := ⟨_, rfl⟩
  rw [hx] at hcell hxl hrun hbody
  have hcellb : (ad.add from_).block < w.heap.size := World.block_lt_of_cell? w _ hcell
  have hcell0 := ((Kept.refl w NoB).alloc (.cells #[.string ByteArray.empty, .slice none 0 0, .slice none 0 0] 30)).cell hcell (fun x => x)
  have HA := Lib.hid hA
  have HLN := Lib.hid hln
  have HEL := Lib.hid hel
  have HRUN := Lib.hid hrun
  have HBODY := Lib.hid hbody
  clear hA hln hel hrun hbody hx
  go_enter Tryd.func13, Tryd.ntmps13
  go_wp2_with fail
  cases hs : statusL p x with
  | none =>
    refine (refStatus_at _ p x _ _ (by omega) hs stR_none).mono ?_
    rintro en w1 ⟨rfl, hk1⟩
    have HB1 := Lib.hid ((Blk.new w 30 #[.string ByteArray.empty, .slice none 0 0, .slice none 0 0]).kept0 hk1)
    have HK1 := Lib.hid (((Kept.refl w NoB).alloc (.cells #[.string ByteArray.empty, .slice none 0 0, .slice none 0 0] 30)).trans' hk1)
    have hst : stepM p none x = (none, 63, none) := by simp [stepM, hs]
    obtain ⟨hnil, hres⟩ := runsE_stop HRUN.out hst (.inr (by decide))
    subst hres
    have hnn := drop_nil_len hfl hnil
    have HNN := Lib.hid hnn
    obtain ⟨r0, r1, r2, q0, q1, q2⟩ := HB1.out.cells3
    have hltR := HB1.out.lt
    clear hk1 hst hnil hnn hs HRUN HA HBODY hcell hcell0
    go_wp2_with fail
    refine bodyPost_ret (results_cell_row4 rfl _ _ w.heap.size 30 _ (0, 0) _ (.int .i64 ((from_ + 1 : Nat) : Int)) (.bool false) (.int .i64 63) rfl (by first | rfl | exact congrArg (Value.int .i64) (by omega)) rfl rfl ((HB1.out.set3 (.string ByteArray.empty) (.slice none 0 0) (.slice none 0 0)).alloc _) Tryd.underlying30 rfl rp_size) rfl ?_
    exact ⟨_, from_ + 1, rfl, fun _ => by have := HNN.out; have := HLN.out; omega, Row.nil _ _ _, (HK1.out.set3 (.inr (Nat.le_refl _)) _ _ _).alloc _⟩
  | some st =>
    obtain ⟨c, m, t⟩ := st
    refine (refStatus_at _ p x _ _ (by omega) hs (stR_mk _ _ _)).mono ?_
    rintro en w1 ⟨rfl, hk1⟩
    have HB1 := Lib.hid ((Blk.new w 30 #[.string ByteArray.empty, .slice none 0 0, .slice none 0 0]).kept0 hk1)
    have HK1 := Lib.hid (((Kept.refl w NoB).alloc (.cells #[.string ByteArray.empty, .slice none 0 0, .slice none 0 0] 30)).trans' hk1)
    obtain ⟨r0, r1, r2, q0, q1, q2⟩ := HB1.out.cells3
    have hltR := HB1.out.lt
    have hd0 : ¬ w.heap.size = w1.heap.size := by omega
    have hd1 : ¬ w.heap.size = w1.heap.size + 1 := by omega
    have hd2 : ¬ w.heap.size = w1.heap.size + 1 + 1 := by omega
    have he1 : w.heap.size < w1.heap.size + 1 := by omega
    have he2 : w.heap.size < w1.heap.size + 1 + 1 := by omega
    have HS := Lib.hid hs
    have hp2 : (p == 2) = false ∨ ((p == 2) = true ∧ body = false) ∨ ((p == 2) = true ∧ body = true ∧ m = false ∧ (c == [43]) = false) := by
      by_cases e : p = 2
      · refine .inr ?_
        cases body with
        | false => exact .inl ⟨beq_iff_eq.2 e, rfl⟩
        | true =>
          refine .inr ⟨beq_iff_eq.2 e, rfl, ?_, ?_⟩
          · cases m with
            | false => rfl
            | true => have := status_more hs; omega
          · cases hc : (c == [43]) with
            | false => rfl
            | true =>
              have hc' := beq_iff_eq.1 hc
              cases m with
              | false => exact absurd (hc' ▸ hs) (HBODY.out e rfl t)
              | true => have := status_more hs; omega
      · exact .inl (beq_eq_false_iff_ne.2 e)
    have HP2 := Lib.hid hp2
    clear hk1 hs HBODY hcell hcell0 hp2
    cases m with
    | false =>
      have hst : stepM p none x = (some (c, [t]), 0, none) := by simp [stepM, HS.out]
      obtain ⟨hnil, hres⟩ := runsE_stop HRUN.out hst (.inl rfl)
      subst hres
      have hnn := drop_nil_len hfl hnil
      have HNN := Lib.hid hnn
      clear hst hnil hnn HRUN HA
      rcases HP2.out with hp | ⟨hp, rfl⟩ | ⟨hp, rfl, _, hc⟩
      all_goals
        have hs3 : ((((w1.setCell ⟨w.heap.size, 0, none⟩ (.string (strB c))).setCell ⟨w.heap.size, 1, none⟩ (.slice (some ⟨w1.heap.size + 1, 0, none⟩) 1 1)).setCell ⟨w.heap.size, 2, none⟩ (.slice none 0 0)).alloc (.cells #[.string (strB c), .bool false, .string (strB t)] 54)).heap.size = w1.heap.size + 1 := by simp [World.setCell]
        have hrow := Row.lit1 ((((w1.setCell ⟨w.heap.size, 0, none⟩ (.string (strB c))).setCell ⟨w.heap.size, 1, none⟩ (.slice (some ⟨w1.heap.size + 1, 0, none⟩) 1 1)).setCell ⟨w.heap.size, 2, none⟩ (.slice none 0 0)).alloc (.cells #[.string (strB c), .bool false, .string (strB t)] 54)) 9 (fun k => w.heap.size ≤ k) (.string (strB t)) (by rw [hs3]; omega)
        rw [hs3] at hrow
        have HLITR := Lib.hid hrow
        clear hs3 hrow
        go_wp2_with fail
        refine bodyPost_ret (results_cell_row4 rfl _ _ w.heap.size 30 _ (0, 0) _ (.int .i64 ((from_ + 1 : Nat) : Int)) (.bool true) (.int .i64 0) rfl (by first | rfl | exact congrArg (Value.int .i64) (by omega)) rfl rfl ((((HB1.out.set3 (.string (strB c)) (.slice (some ⟨w1.heap.size + 1, 0, none⟩) 1 1) (.slice none 0 0)).alloc _).alloc _).alloc _) Tryd.underlying30 rfl rp_size) rfl ?_
        exact ⟨_, from_ + 1, rfl, fun _ => by have := HNN.out; have := HLN.out; omega, HLITR.out.alloc _, (((HK1.out.set3 (.inr (Nat.le_refl _)) _ _ _).alloc _).alloc _).alloc _⟩
    | true =>
      have hst : stepM p none x = (none, 0, some (c, [t])) := by simp [stepM, HS.out]
      have hrun := runsE_go HRUN.out hst
      have hp13 := status_more HS.out
      have hp : (p == 2) = false := beq_eq_false_iff_ne.2 (by omega)
      have HRUN2 := Lib.hid hrun
      have HP13 := Lib.hid hp13
      clear hst hrun HP2 HRUN hp13
      go_wp2_with fail
      have hb1 := ((HB1.out.alloc (.cells #[.string (strB c), .bool true, .string (strB t)] 54)).alloc (.cells #[.string (strB t)] 9)).alloc (.cells #[.string (strB c), .slice (some ⟨w1.heap.size + 1, 0, none⟩) 1 1, .slice none 0 0] 30)
      have hb2 := ((Blk.new w1 54 #[.string (strB c), .bool true, .string (strB t)]).alloc (.cells #[.string (strB t)] 9)).alloc (.cells #[.string (strB c), .slice (some ⟨w1.heap.size + 1, 0, none⟩) 1 1, .slice none 0 0] 30)
      have hb3 := Blk.new ((w1.alloc (.cells #[.string (strB c), .bool true, .string (strB t)] 54)).alloc (.cells #[.string (strB t)] 9)) 30 #[.string (strB c), .slice (some ⟨w1.heap.size + 1, 0, none⟩) 1 1, .slice none 0 0]
      have hrow := (Row.lit1 (w1.alloc (.cells #[.string (strB c), .bool true, .string (strB t)] 54)) 9 (fun k => w.heap.size ≤ k) (.string (strB t)) (by have := HK1.out.size; rw [World.size_alloc]; omega)).alloc (.cells #[.string (strB c), .slice (some ⟨w1.heap.size + 1, 0, none⟩) 1 1, .slice none 0 0] 30)
      have hk3 := ((HK1.out.alloc (.cells #[.string (strB c), .bool true, .string (strB t)] 54)).alloc (.cells #[.string (strB t)] 9)).alloc (.cells #[.string (strB c), .slice (some ⟨w1.heap.size + 1, 0, none⟩) 1 1, .slice none 0 0] 30)
      simp only [World.size_alloc] at hb3 hrow
      have HX1 := Lib.hid hb1
      have HX2 := Lib.hid hb2
      have HX3 := Lib.hid hb3
      have HX4 := Lib.hid hrow
      have HX5 := Lib.hid hk3
      have hRS : ¬ w.heap.size = w1.heap.size := by omega
      have hRR : ¬ w.heap.size = w1.heap.size + 1 + 1 := by omega
      clear hb1 hb2 hb3 hrow hk3 r0 r1 r2 q0 q1 q2
      go_loopg [15] (n - (from_ + 1)) (fun gk v15 wr => OneS w p c t true w.heap.size w1.heap.size (w1.heap.size + 1 + 1) L res gk v15 wr)
      case atStart => exact ⟨from_ + 1, [t], _, by omega, by have := HLN.out; omega, by go_num, HRUN2.out, by simp, HX1.out, HX2.out, HX3.out, HX4.out, HX5.out⟩
      case round =>
        obtain ⟨i, acc, va, hi, hgk, rfl, hrun, hacc, hbR, hbS, hbX, hrow, hkr⟩ := hrel
        rw [HLN.out] at hi
        have hlR := hbR.lt
        have hlS := hbS.lt
        have hlX := hbX.lt
        have HG := Lib.hid hgk
        have HR := Lib.hid hbR
        have HSS := Lib.hid hbS
        have HXX := Lib.hid hbX
        have HROW := Lib.hid hrow
        have HKR := Lib.hid hkr
        clear hgk hbR hbS hbX hrow hkr
        rcases Nat.lt_or_ge i n with hlt | hge
        · have hil : i < L.length := by rw [HLN.out]; exact hlt
          obtain ⟨ad', u, hAd, hu, hcell⟩ := (HA.out.kept0 HKR.out).at_ hlt
          injection hAd with hAd
          subst hAd
          rw [strs_at L i hil] at hu
          injection hu with hu
          subst hu
          rw [drop_cons hil] at hrun
          have hyl := HEL.out L[i] (List.getElem_mem hil)
          obtain ⟨y, hy⟩ : ∃ y, L[i] = y := ⟨_, rfl⟩
          rw [hy] at hcell hyl hrun
          have HRU := Lib.hid hrun
          clear hrun hy
          go_wp2_with fail
          obtain ⟨sy, hsy⟩ : ∃ sy, statusL p y = sy := ⟨_, rfl⟩
          have HSY := Lib.hid hsy
          refine (refStatus_at _ p y sy (.tuple #[stA (stV sy), .bool sy.isSome]) (by omega) hsy rfl).mono ?_
          rintro en w2 ⟨rfl, hk2⟩
          have hcell2 := hk2.cell hcell (fun x => x)
          have hb1 := HR.out.kept0 hk2
          have hb2 := HSS.out.kept0 hk2
          have hb3 := HXX.out.kept0 hk2
          obtain ⟨r0, r1, r2, q0, q1, q2⟩ := hb1.cells3
          obtain ⟨s0, s1, s2, _, _, _⟩ := hb2.cells3
          obtain ⟨x0, x1, x2, y0, y1, y2⟩ := hb3.cells3
          have hl1 := hb1.lt
          have hl2 := hb2.lt
          have hl3 := hb3.lt
          have hrw := HROW.out.kept0 hk2
          obtain ⟨A2, c2, rfl, hc2, _⟩ := hrw.readsN (n := acc.length) (strs_length _)
          have HB1 := Lib.hid hb1
          have HB2 := Lib.hid hb2
          have HB3 := Lib.hid hb3
          have HRW := Lib.hid hrw
          have hvX : ¬ OB (.slice A2 acc.length c2) (w1.heap.size + 1 + 1) := hrw.ne_blk hb3 (by decide)
          have hvR : ¬ OB (.slice A2 acc.length c2) w.heap.size := hrw.ne_blk hb1 (by decide)
          have hvS : ¬ OB (.slice A2 acc.length c2) w1.heap.size := hrw.ne_blk hb2 (by decide)
          have HVX := Lib.hid hvX
          have HVR := Lib.hid hvR
          have HVS := Lib.hid hvS
          have HK2 := Lib.hid (HKR.out.trans' hk2)
          have hcb : (ad.add i).block < w2.heap.size := World.block_lt_of_cell? w2 _ hcell2
          clear hk2 hb1 hb2 hb3 hrw hsy hvX hvR hvS hcell
          rcases HP13.out with rfl | rfl
          · cases sy with
            | none =>
              simp only [stA, stV, Option.getD_none, Option.isSome_none, strB_nil]
              have hst : stepM 1 (some (c, acc)) y = (none, 63, none) := stepM1_bad (fun m t => by rw [HSY.out]; simp)
              obtain ⟨hnil, hres⟩ := runsE_stop HRU.out hst (.inr (by decide))
              subst hres
              have hnn := drop_nil_len hil hnil
              have HNN := Lib.hid hnn
              clear hst hnil hnn
              go_wp2_with fail
              refine bodyPost_ret (results_cell_row4 rfl _ _ w.heap.size 30 _ (0, 0) _ (.int .i64 ((i + 1 : Nat) : Int)) (.bool false) (.int .i64 63) rfl (by first | rfl | exact congrArg (Value.int .i64) (by omega)) rfl rfl ((HB1.out.set3 (.string ByteArray.empty) (.slice none 0 0) (.slice none 0 0)).alloc _) Tryd.underlying30 rfl rp_size) rfl ?_
              exact ⟨_, i + 1, rfl, fun _ => by have := HNN.out; have := HLN.out; omega, Row.nil _ _ _, (HK2.out.set3 (.inr (Nat.le_refl _)) _ _ _).alloc _⟩
            | some sx =>
              obtain ⟨c', m', t'⟩ := sx
              simp only [stA, stV, Option.getD_some, Option.isSome_some]
              by_cases hcc : c' = c
              · have b1 : (c' == c) = true := beq_iff_eq.2 hcc
                have b2 : (c' != c) = false := by rw [hcc]; simp
                have HCC := Lib.hid hcc
                clear hcc
                cases m' with
                | true =>
                  by_cases h20 : 20 ≤ acc.length
                  · have h20' : (20 : Int) ≤ (acc.length : Int) := by omega
                    have hst : stepM 1 (some (c, acc)) y = (none, 72, none) := by rw [stepM1 HSY.out HCC.out, if_pos h20]
                    obtain ⟨hnil, hres⟩ := runsE_stop HRU.out hst (.inr (by decide))
                    subst hres
                    have hnn := drop_nil_len hil hnil
                    have HNN := Lib.hid hnn
                    clear hst hnil hnn
                    go_wp2_with fail
                    refine bodyPost_ret (results_cell_row4 rfl _ _ w.heap.size 30 _ (0, 0) _ (.int .i64 ((i + 1 : Nat) : Int)) (.bool false) (.int .i64 72) rfl (by first | rfl | exact congrArg (Value.int .i64) (by omega)) rfl rfl ((HB1.out.set3 (.string ByteArray.empty) (.slice none 0 0) (.slice none 0 0)).alloc _) Tryd.underlying30 rfl rp_size) rfl ?_
                    exact ⟨_, i + 1, rfl, fun _ => by have := HNN.out; have := HLN.out; omega, Row.nil _ _ _, (HK2.out.set3 (.inr (Nat.le_refl _)) _ _ _).alloc _⟩
                  · have h20' : ¬ (20 : Int) ≤ (acc.length : Int) := by omega
                    have hst : stepM 1 (some (c, acc)) y = (none, 0, some (c, acc ++ [t'])) := by rw [stepM1 HSY.out HCC.out, if_neg h20]; rfl
                    have HRU2 := Lib.hid (runsE_go HRU.out hst)
                    clear hst
                    go_wp2_with (at_builtin; refine wpList_app1 (W := w2.alloc (.cells #[.string (strB c'), .bool true, .string (strB t')] 54)) rfl _ _ 22 9 (.string ByteArray.empty) 16 rfl Tryd.underlying22 info_str rfl (by decide) (fun k => w.heap.size ≤ k) (.slice A2 acc.length c2) (strs acc) (.string (strB t')) rfl (by rw [World.size_alloc]; rfl) rfl (HRW.out.alloc _) (fun k hk => by have h1 := HK2.out.size; have h2 := World.size_alloc w2 (.cells #[.string (strB c'), .bool true, .string (strB t')] 54); omega) (by rw [strs_length]; omega) ?_)
                    intro v1 w3 hown hkp hob
                    have hown' : Row w3 9 (fun k => w.heap.size ≤ k) v1 (strs (acc ++ [t'])) := by rw [strs_append]; exact hown
                    have hb1 := (HB1.out.alloc _).kept hkp HVR.out
                    have hb2 := (HB2.out.alloc _).kept hkp HVS.out
                    have hb3 := (HB3.out.alloc _).kept hkp HVX.out
                    have hk3 := (HK2.out.alloc (.cells #[.string (strB c'), .bool true, .string (strB t')] 54)).trans hkp fun b hb => .inr (HRW.out.2 b hb)
                    have hvX1 : v1.ownBlock ≠ some (w1.heap.size + 1 + 1) := hown.ne_blk hb3 (by decide)
                    have hvR1 : v1.ownBlock ≠ some w.heap.size := hown.ne_blk hb1 (by decide)
                    obtain ⟨A3, n3, c3, hv3⟩ := hown.slice
                    subst hv3
                    have HO := Lib.hid hown'
                    have HC1 := Lib.hid hb1
                    have HC2 := Lib.hid hb2
                    have HC3 := Lib.hid hb3
                    have HK3 := Lib.hid hk3
                    have HVX1 := Lib.hid hvX1
                    have HVR1 := Lib.hid hvR1
                    clear r0 r1 r2 q0 q1 q2 s0 s1 s2 x0 x1 x2 y0 y1 y2
                    obtain ⟨r0, r1, r2, q0, q1, q2⟩ := hb1.cells3
                    obtain ⟨x0, x1, x2, y0, y1, y2⟩ := hb3.cells3
                    have hl1' := hb1.lt
                    have hl3' := hb3.lt
                    clear hown hown' hkp hob hb1 hb2 hb3 hk3 hvX1 hvR1
                    go_wp2_with fail
                    go_roundg (n - (i + 1))
                    case measure => have := HG.out; have := HLN.out; omega
                    case rel => exact ⟨i + 1, acc ++ [t'], _, by omega, by have := HLN.out; omega, by go_num, HRU2.out, by rw [List.length_append]; simp; omega, HC1.out.far (p := ⟨w1.heap.size + 1 + 1, 1, none⟩) hRR _, HC2.out.far (p := ⟨w1.heap.size + 1 + 1, 1, none⟩) (show ¬ w1.heap.size = w1.heap.size + 1 + 1 by omega) _, HC3.out.set_ 1 _, HO.out.far (p := ⟨w1.heap.size + 1 + 1, 1, none⟩) HVX1.out _, HK3.out.setCell (p := ⟨w1.heap.size + 1 + 1, 1, none⟩) (.inr (by have := HK1.out.size; show w.heap.size ≤ w1.heap.size + 1 + 1; omega)) _⟩
                | false =>
                  by_cases h20 : 20 ≤ acc.length
                  · have h20' : (20 : Int) ≤ (acc.length : Int) := by omega
                    have hst : stepM 1 (some (c, acc)) y = (none, 72, none) := by rw [stepM1 HSY.out HCC.out, if_pos h20]
                    obtain ⟨hnil, hres⟩ := runsE_stop HRU.out hst (.inr (by decide))
                    subst hres
                    have hnn := drop_nil_len hil hnil
                    have HNN := Lib.hid hnn
                    clear hst hnil hnn
                    go_wp2_with fail
                    refine bodyPost_ret (results_cell_row4 rfl _ _ w.heap.size 30 _ (0, 0) _ (.int .i64 ((i + 1 : Nat) : Int)) (.bool false) (.int .i64 72) rfl (by first | rfl | exact congrArg (Value.int .i64) (by omega)) rfl rfl ((HB1.out.set3 (.string ByteArray.empty) (.slice none 0 0) (.slice none 0 0)).alloc _) Tryd.underlying30 rfl rp_size) rfl ?_
                    exact ⟨_, i + 1, rfl, fun _ => by have := HNN.out; have := HLN.out; omega, Row.nil _ _ _, (HK2.out.set3 (.inr (Nat.le_refl _)) _ _ _).alloc _⟩
                  · have h20' : ¬ (20 : Int) ≤ (acc.length : Int) := by omega
                    have hst : stepM 1 (some (c, acc)) y = (some (c, acc ++ [t']), 0, none) := by rw [stepM1 HSY.out HCC.out, if_neg h20]; rfl
                    obtain ⟨hnil, hres⟩ := runsE_stop HRU.out hst (.inl rfl)
                    subst hres
                    have hnn := drop_nil_len hil hnil
                    have HNN := Lib.hid hnn
                    clear hst hnil hnn
                    go_wp2_with (at_builtin; refine wpList_app1 (W := w2.alloc (.cells #[.string (strB c'), .bool false, .string (strB t')] 54)) rfl _ _ 22 9 (.string ByteArray.empty) 16 rfl Tryd.underlying22 info_str rfl (by decide) (fun k => w.heap.size ≤ k) (.slice A2 acc.length c2) (strs acc) (.string (strB t')) rfl (by rw [World.size_alloc]; rfl) rfl (HRW.out.alloc _) (fun k hk => by have h1 := HK2.out.size; have h2 := World.size_alloc w2 (.cells #[.string (strB c'), .bool false, .string (strB t')] 54); omega) (by rw [strs_length]; omega) ?_)
                    intro v1 w3 hown hkp hob
                    have hown' : Row w3 9 (fun k => w.heap.size ≤ k) v1 (strs (acc ++ [t'])) := by rw [strs_append]; exact hown
                    have hb1 := (HB1.out.alloc _).kept hkp HVR.out
                    have hb2 := (HB2.out.alloc _).kept hkp HVS.out
                    have hb3 := (HB3.out.alloc _).kept hkp HVX.out
                    have hk3 := (HK2.out.alloc (.cells #[.string (strB c'), .bool false, .string (strB t')] 54)).trans hkp fun b hb => .inr (HRW.out.2 b hb)
                    have hvX1 : v1.ownBlock ≠ some (w1.heap.size + 1 + 1) := hown.ne_blk hb3 (by decide)
                    have hvR1 : v1.ownBlock ≠ some w.heap.size := hown.ne_blk hb1 (by decide)
                    obtain ⟨A3, n3, c3, hv3⟩ := hown.slice
                    subst hv3
                    have HO := Lib.hid hown'
                    have HC1 := Lib.hid hb1
                    have HC2 := Lib.hid hb2
                    have HC3 := Lib.hid hb3
                    have HK3 := Lib.hid hk3
                    have HVX1 := Lib.hid hvX1
                    have HVR1 := Lib.hid hvR1
                    clear r0 r1 r2 q0 q1 q2 s0 s1 s2 x0 x1 x2 y0 y1 y2
                    obtain ⟨r0, r1, r2, q0, q1, q2⟩ := hb1.cells3
                    obtain ⟨x0, x1, x2, y0, y1, y2⟩ := hb3.cells3
                    have hl1' := hb1.lt
                    have hl3' := hb3.lt
                    clear hown hown' hkp hob hb1 hb2 hb3 hk3 hvX1 hvR1
                    go_wp2_with fail
                    refine bodyPost_ret (results_cell_row4 rfl _ _ w.heap.size 30 _ (0, 0) _ (.int .i64 ((i + 1 : Nat) : Int)) (.bool true) (.int .i64 0) rfl (by first | rfl | exact congrArg (Value.int .i64) (by omega)) rfl rfl ((HC1.out.far (p := ⟨w1.heap.size + 1 + 1, 1, none⟩) hRR (.slice A3 n3 c3)).set3 (.string (strB c)) (.slice A3 n3 c3) (.slice none 0 0)) Tryd.underlying30 rfl rp_size) rfl ?_
                    exact ⟨_, i + 1, rfl, fun _ => by have := HNN.out; have := HLN.out; omega, (HO.out.far (p := ⟨w1.heap.size + 1 + 1, 1, none⟩) HVX1.out _).far3 HVR1.out _ _ _, (HK3.out.setCell (p := ⟨w1.heap.size + 1 + 1, 1, none⟩) (.inr (by have := HK1.out.size; show w.heap.size ≤ w1.heap.size + 1 + 1; omega)) _).set3 (.inr (Nat.le_refl _)) _ _ _⟩
              · have b1 : (c' == c) = false := beq_eq_false_iff_ne.2 hcc
                have b2 : (c' != c) = true := by simp [hcc]
                have hst : stepM 1 (some (c, acc)) y = (none, 63, none) := stepM1_bad (fun m t => by rw [HSY.out]; intro e; injection e with e; injection e with e _; exact hcc e)
                obtain ⟨hnil, hres⟩ := runsE_stop HRU.out hst (.inr (by decide))
                subst hres
                have hnn := drop_nil_len hil hnil
                have HNN := Lib.hid hnn
                clear hst hnil hnn
                go_wp2_with fail
                refine bodyPost_ret (results_cell_row4 rfl _ _ w.heap.size 30 _ (0, 0) _ (.int .i64 ((i + 1 : Nat) : Int)) (.bool false) (.int .i64 63) rfl (by first | rfl | exact congrArg (Value.int .i64) (by omega)) rfl rfl ((HB1.out.set3 (.string ByteArray.empty) (.slice none 0 0) (.slice none 0 0)).alloc _) Tryd.underlying30 rfl rp_size) rfl ?_
                exact ⟨_, i + 1, rfl, fun _ => by have := HNN.out; have := HLN.out; omega, Row.nil _ _ _, (HK2.out.set3 (.inr (Nat.le_refl _)) _ _ _).alloc _⟩
          · have d1 : ((3 : Int) == 1) = false := rfl
            cases sy with
            | none =>
              simp only [stA, stV, Option.getD_none, Option.isSome_none, strB_nil]
              have hla : lastF 3 c y = none := by unfold lastF; rw [HSY.out]
              have HLA := Lib.hid hla
              clear hla
              by_cases h20 : 20 ≤ acc.length
              · have h20' : (20 : Int) ≤ (acc.length : Int) := by omega
                have hst : stepM 3 (some (c, acc)) y = (none, 72, none) := by rw [stepM3, HLA.out]; simp only [if_pos h20]
                obtain ⟨hnil, hres⟩ := runsE_stop HRU.out hst (.inr (by decide))
                subst hres
                have hnn := drop_nil_len hil hnil
                have HNN := Lib.hid hnn
                clear hst hnil hnn
                go_wp2_with fail
                refine bodyPost_ret (results_cell_row4 rfl _ _ w.heap.size 30 _ (0, 0) _ (.int .i64 ((i + 1 : Nat) : Int)) (.bool false) (.int .i64 72) rfl (by first | rfl | exact congrArg (Value.int .i64) (by omega)) rfl rfl ((HB1.out.set3 (.string ByteArray.empty) (.slice none 0 0) (.slice none 0 0)).alloc _) Tryd.underlying30 rfl rp_size) rfl ?_
                exact ⟨_, i + 1, rfl, fun _ => by have := HNN.out; have := HLN.out; omega, Row.nil _ _ _, (HK2.out.set3 (.inr (Nat.le_refl _)) _ _ _).alloc _⟩
              · have h20' : ¬ (20 : Int) ≤ (acc.length : Int) := by omega
                have hst : stepM 3 (some (c, acc)) y = (none, 0, some (c, acc ++ [y])) := by rw [stepM3, HLA.out]; simp only [if_neg h20]
                have HRU2 := Lib.hid (runsE_go HRU.out hst)
                clear hst
                go_wp2_with (at_builtin; refine wpList_app1 (W := w2.alloc (.cells #[.string ByteArray.empty, .bool false, .string ByteArray.empty] 54)) rfl _ _ 22 9 (.string ByteArray.empty) 16 rfl Tryd.underlying22 info_str rfl (by decide) (fun k => w.heap.size ≤ k) (.slice A2 acc.length c2) (strs acc) (.string (strB y)) rfl (by rw [World.size_alloc]; rfl) rfl (HRW.out.alloc _) (fun k hk => by have h1 := HK2.out.size; have h2 := World.size_alloc w2 (.cells #[.string ByteArray.empty, .bool false, .string ByteArray.empty] 54); omega) (by rw [strs_length]; omega) ?_)
                intro v1 w3 hown hkp hob
                have hown' : Row w3 9 (fun k => w.heap.size ≤ k) v1 (strs (acc ++ [y])) := by rw [strs_append]; exact hown
                have hb1 := (HB1.out.alloc _).kept hkp HVR.out
                have hb2 := (HB2.out.alloc _).kept hkp HVS.out
                have hb3 := (HB3.out.alloc _).kept hkp HVX.out
                have hk3 := (HK2.out.alloc (.cells #[.string ByteArray.empty, .bool false, .string ByteArray.empty] 54)).trans hkp fun b hb => .inr (HRW.out.2 b hb)
                have hvX1 : v1.ownBlock ≠ some (w1.heap.size + 1 + 1) := hown.ne_blk hb3 (by decide)
                have hvR1 : v1.ownBlock ≠ some w.heap.size := hown.ne_blk hb1 (by decide)
                obtain ⟨A3, n3, c3, hv3⟩ := hown.slice
                subst hv3
                have HO := Lib.hid hown'
                have HC1 := Lib.hid hb1
                have HC2 := Lib.hid hb2
                have HC3 := Lib.hid hb3
                have HK3 := Lib.hid hk3
                have HVX1 := Lib.hid hvX1
                have HVR1 := Lib.hid hvR1
                clear r0 r1 r2 q0 q1 q2 s0 s1 s2 x0 x1 x2 y0 y1 y2
                obtain ⟨r0, r1, r2, q0, q1, q2⟩ := hb1.cells3
                obtain ⟨x0, x1, x2, y0, y1, y2⟩ := hb3.cells3
                have hl1' := hb1.lt
                have hl3' := hb3.lt
                clear hown hown' hkp hob hb1 hb2 hb3 hk3 hvX1 hvR1
                go_wp2_with fail
                go_roundg (n - (i + 1))
                case measure => have := HG.out; have := HLN.out; omega
                case rel => exact ⟨i + 1, acc ++ [y], _, by omega, by have := HLN.out; omega, by go_num, HRU2.out, by rw [List.length_append]; simp; omega, HC1.out.far (p := ⟨w1.heap.size + 1 + 1, 1, none⟩) hRR _, HC2.out.far (p := ⟨w1.heap.size + 1 + 1, 1, none⟩) (show ¬ w1.heap.size = w1.heap.size + 1 + 1 by omega) _, HC3.out.set_ 1 _, HO.out.far (p := ⟨w1.heap.size + 1 + 1, 1, none⟩) HVX1.out _, HK3.out.setCell (p := ⟨w1.heap.size + 1 + 1, 1, none⟩) (.inr (by have := HK1.out.size; show w.heap.size ≤ w1.heap.size + 1 + 1; omega)) _⟩
            | some sx =>
              obtain ⟨c', m', t'⟩ := sx
              simp only [stA, stV, Option.getD_some, Option.isSome_some]
              by_cases hcc : c' = c
              · have b1 : (c' == c) = true := beq_iff_eq.2 hcc
                have HCC := Lib.hid hcc
                clear hcc
                cases m' with
                | true =>
                  have hla : lastF 3 c y = none := by unfold lastF; rw [HSY.out]
                  have HLA := Lib.hid hla
                  clear hla
                  by_cases h20 : 20 ≤ acc.length
                  · have h20' : (20 : Int) ≤ (acc.length : Int) := by omega
                    have hst : stepM 3 (some (c, acc)) y = (none, 72, none) := by rw [stepM3, HLA.out]; simp only [if_pos h20]
                    obtain ⟨hnil, hres⟩ := runsE_stop HRU.out hst (.inr (by decide))
                    subst hres
                    have hnn := drop_nil_len hil hnil
                    have HNN := Lib.hid hnn
                    clear hst hnil hnn
                    go_wp2_with fail
                    refine bodyPost_ret (results_cell_row4 rfl _ _ w.heap.size 30 _ (0, 0) _ (.int .i64 ((i + 1 : Nat) : Int)) (.bool false) (.int .i64 72) rfl (by first | rfl | exact congrArg (Value.int .i64) (by omega)) rfl rfl ((HB1.out.set3 (.string ByteArray.empty) (.slice none 0 0) (.slice none 0 0)).alloc _) Tryd.underlying30 rfl rp_size) rfl ?_
                    exact ⟨_, i + 1, rfl, fun _ => by have := HNN.out; have := HLN.out; omega, Row.nil _ _ _, (HK2.out.set3 (.inr (Nat.le_refl _)) _ _ _).alloc _⟩
                  · have h20' : ¬ (20 : Int) ≤ (acc.length : Int) := by omega
                    have hst : stepM 3 (some (c, acc)) y = (none, 0, some (c, acc ++ [y])) := by rw [stepM3, HLA.out]; simp only [if_neg h20]
                    have HRU2 := Lib.hid (runsE_go HRU.out hst)
                    clear hst
                    go_wp2_with (at_builtin; refine wpList_app1 (W := w2.alloc (.cells #[.string (strB c'), .bool true, .string (strB t')] 54)) rfl _ _ 22 9 (.string ByteArray.empty) 16 rfl Tryd.underlying22 info_str rfl (by decide) (fun k => w.heap.size ≤ k) (.slice A2 acc.length c2) (strs acc) (.string (strB y)) rfl (by rw [World.size_alloc]; rfl) rfl (HRW.out.alloc _) (fun k hk => by have h1 := HK2.out.size; have h2 := World.size_alloc w2 (.cells #[.string (strB c'), .bool true, .string (strB t')] 54); omega) (by rw [strs_length]; omega) ?_)
                    intro v1 w3 hown hkp hob
                    have hown' : Row w3 9 (fun k => w.heap.size ≤ k) v1 (strs (acc ++ [y])) := by rw [strs_append]; exact hown
                    have hb1 := (HB1.out.alloc _).kept hkp HVR.out
                    have hb2 := (HB2.out.alloc _).kept hkp HVS.out
                    have hb3 := (HB3.out.alloc _).kept hkp HVX.out
                    have hk3 := (HK2.out.alloc (.cells #[.string (strB c'), .bool true, .string (strB t')] 54)).trans hkp fun b hb => .inr (HRW.out.2 b hb)
                    have hvX1 : v1.ownBlock ≠ some (w1.heap.size + 1 + 1) := hown.ne_blk hb3 (by decide)
                    have hvR1 : v1.ownBlock ≠ some w.heap.size := hown.ne_blk hb1 (by decide)
                    obtain ⟨A3, n3, c3, hv3⟩ := hown.slice
                    subst hv3
                    have HO := Lib.hid hown'
                    have HC1 := Lib.hid hb1
                    have HC2 := Lib.hid hb2
                    have HC3 := Lib.hid hb3
                    have HK3 := Lib.hid hk3
                    have HVX1 := Lib.hid hvX1
                    have HVR1 := Lib.hid hvR1
                    clear r0 r1 r2 q0 q1 q2 s0 s1 s2 x0 x1 x2 y0 y1 y2
                    obtain ⟨r0, r1, r2, q0, q1, q2⟩ := hb1.cells3
                    obtain ⟨x0, x1, x2, y0, y1, y2⟩ := hb3.cells3
                    have hl1' := hb1.lt
                    have hl3' := hb3.lt
                    clear hown hown' hkp hob hb1 hb2 hb3 hk3 hvX1 hvR1
                    go_wp2_with fail
                    go_roundg (n - (i + 1))
                    case measure => have := HG.out; have := HLN.out; omega
                    case rel => exact ⟨i + 1, acc ++ [y], _, by omega, by have := HLN.out; omega, by go_num, HRU2.out, by rw [List.length_append]; simp; omega, HC1.out.far (p := ⟨w1.heap.size + 1 + 1, 1, none⟩) hRR _, HC2.out.far (p := ⟨w1.heap.size + 1 + 1, 1, none⟩) (show ¬ w1.heap.size = w1.heap.size + 1 + 1 by omega) _, HC3.out.set_ 1 _, HO.out.far (p := ⟨w1.heap.size + 1 + 1, 1, none⟩) HVX1.out _, HK3.out.setCell (p := ⟨w1.heap.size + 1 + 1, 1, none⟩) (.inr (by have := HK1.out.size; show w.heap.size ≤ w1.heap.size + 1 + 1; omega)) _⟩
                | false =>
                  have hla : lastF 3 c y = some t' := by unfold lastF; rw [HSY.out]; exact if_pos HCC.out
                  have HLA := Lib.hid hla
                  clear hla
                  by_cases h20 : 20 ≤ acc.length
                  · have h20' : (20 : Int) ≤ (acc.length : Int) := by omega
                    have hst : stepM 3 (some (c, acc)) y = (none, 72, none) := by rw [stepM3, HLA.out]; simp only [if_pos h20]
                    obtain ⟨hnil, hres⟩ := runsE_stop HRU.out hst (.inr (by decide))
                    subst hres
                    have hnn := drop_nil_len hil hnil
                    have HNN := Lib.hid hnn
                    clear hst hnil hnn
                    go_wp2_with fail
                    refine bodyPost_ret (results_cell_row4 rfl _ _ w.heap.size 30 _ (0, 0) _ (.int .i64 ((i + 1 : Nat) : Int)) (.bool false) (.int .i64 72) rfl (by first | rfl | exact congrArg (Value.int .i64) (by omega)) rfl rfl ((HB1.out.set3 (.string ByteArray.empty) (.slice none 0 0) (.slice none 0 0)).alloc _) Tryd.underlying30 rfl rp_size) rfl ?_
                    exact ⟨_, i + 1, rfl, fun _ => by have := HNN.out; have := HLN.out; omega, Row.nil _ _ _, (HK2.out.set3 (.inr (Nat.le_refl _)) _ _ _).alloc _⟩
                  · have h20' : ¬ (20 : Int) ≤ (acc.length : Int) := by omega
                    have hst : stepM 3 (some (c, acc)) y = (some (c, acc ++ [t']), 0, none) := by rw [stepM3, HLA.out]; simp only [if_neg h20]
                    obtain ⟨hnil, hres⟩ := runsE_stop HRU.out hst (.inl rfl)
                    subst hres
                    have hnn := drop_nil_len hil hnil
                    have HNN := Lib.hid hnn
                    clear hst hnil hnn
                    go_wp2_with (at_builtin; refine wpList_app1 (W := w2.alloc (.cells #[.string (strB c'), .bool false, .string (strB t')] 54)) rfl _ _ 22 9 (.string ByteArray.empty) 16 rfl Tryd.underlying22 info_str rfl (by decide) (fun k => w.heap.size ≤ k) (.slice A2 acc.length c2) (strs acc) (.string (strB t')) rfl (by rw [World.size_alloc]; rfl) rfl (HRW.out.alloc _) (fun k hk => by have h1 := HK2.out.size; have h2 := World.size_alloc w2 (.cells #[.string (strB c'), .bool false, .string (strB t')] 54); omega) (by rw [strs_length]; omega) ?_)
                    intro v1 w3 hown hkp hob
                    have hown' : Row w3 9 (fun k => w.heap.size ≤ k) v1 (strs (acc ++ [t'])) := by rw [strs_append]; exact hown
                    have hb1 := (HB1.out.alloc _).kept hkp HVR.out
                    have hb2 := (HB2.out.alloc _).kept hkp HVS.out
                    have hb3 := (HB3.out.alloc _).kept hkp HVX.out
                    have hk3 := (HK2.out.alloc (.cells #[.string (strB c'), .bool false, .string (strB t')] 54)).trans hkp fun b hb => .inr (HRW.out.2 b hb)
                    have hvX1 : v1.ownBlock ≠ some (w1.heap.size + 1 + 1) := hown.ne_blk hb3 (by decide)
                    have hvR1 : v1.ownBlock ≠ some w.heap.size := hown.ne_blk hb1 (by decide)
                    obtain ⟨A3, n3, c3, hv3⟩ := hown.slice
                    subst hv3
                    have HO := Lib.hid hown'
                    have HC1 := Lib.hid hb1
                    have HC2 := Lib.hid hb2
                    have HC3 := Lib.hid hb3
                    have HK3 := Lib.hid hk3
                    have HVX1 := Lib.hid hvX1
                    have HVR1 := Lib.hid hvR1
                    clear r0 r1 r2 q0 q1 q2 s0 s1 s2 x0 x1 x2 y0 y1 y2
                    obtain ⟨r0, r1, r2, q0, q1, q2⟩ := hb1.cells3
                    obtain ⟨x0, x1, x2, y0, y1, y2⟩ := hb3.cells3
                    have hl1' := hb1.lt
                    have hl3' := hb3.lt
                    clear hown hown' hkp hob hb1 hb2 hb3 hk3 hvX1 hvR1
                    go_wp2_with fail
                    refine bodyPost_ret (results_cell_row4 rfl _ _ w.heap.size 30 _ (0, 0) _ (.int .i64 ((i + 1 : Nat) : Int)) (.bool true) (.int .i64 0) rfl (by first | rfl | exact congrArg (Value.int .i64) (by omega)) rfl rfl ((HC1.out.far (p := ⟨w1.heap.size + 1 + 1, 1, none⟩) hRR (.slice A3 n3 c3)).set3 (.string (strB c)) (.slice A3 n3 c3) (.slice none 0 0)) Tryd.underlying30 rfl rp_size) rfl ?_
                    exact ⟨_, i + 1, rfl, fun _ => by have := HNN.out; have := HLN.out; omega, (HO.out.far (p := ⟨w1.heap.size + 1 + 1, 1, none⟩) HVX1.out _).far3 HVR1.out _ _ _, (HK3.out.setCell (p := ⟨w1.heap.size + 1 + 1, 1, none⟩) (.inr (by have := HK1.out.size; show w.heap.size ≤ w1.heap.size + 1 + 1; omega)) _).set3 (.inr (Nat.le_refl _)) _ _ _⟩
              · have b1 : (c' == c) = false := beq_eq_false_iff_ne.2 hcc
                cases m' with
                | true =>
                  have hla : lastF 3 c y = none := by unfold lastF; rw [HSY.out]
                  have HLA := Lib.hid hla
                  clear hla
                  by_cases h20 : 20 ≤ acc.length
                  · have h20' : (20 : Int) ≤ (acc.length : Int) := by omega
                    have hst : stepM 3 (some (c, acc)) y = (none, 72, none) := by rw [stepM3, HLA.out]; simp only [if_pos h20]
                    obtain ⟨hnil, hres⟩ := runsE_stop HRU.out hst (.inr (by decide))
                    subst hres
                    have hnn := drop_nil_len hil hnil
                    have HNN := Lib.hid hnn
                    clear hst hnil hnn
                    go_wp2_with fail
                    refine bodyPost_ret (results_cell_row4 rfl _ _ w.heap.size 30 _ (0, 0) _ (.int .i64 ((i + 1 : Nat) : Int)) (.bool false) (.int .i64 72) rfl (by first | rfl | exact congrArg (Value.int .i64) (by omega)) rfl rfl ((HB1.out.set3 (.string ByteArray.empty) (.slice none 0 0) (.slice none 0 0)).alloc _) Tryd.underlying30 rfl rp_size) rfl ?_
                    exact ⟨_, i + 1, rfl, fun _ => by have := HNN.out; have := HLN.out; omega, Row.nil _ _ _, (HK2.out.set3 (.inr (Nat.le_refl _)) _ _ _).alloc _⟩
                  · have h20' : ¬ (20 : Int) ≤ (acc.length : Int) := by omega
                    have hst : stepM 3 (some (c, acc)) y = (none, 0, some (c, acc ++ [y])) := by rw [stepM3, HLA.out]; simp only [if_neg h20]
                    have HRU2 := Lib.hid (runsE_go HRU.out hst)
                    clear hst
                    go_wp2_with (at_builtin; refine wpList_app1 (W := w2.alloc (.cells #[.string (strB c'), .bool true, .string (strB t')] 54)) rfl _ _ 22 9 (.string ByteArray.empty) 16 rfl Tryd.underlying22 info_str rfl (by decide) (fun k => w.heap.size ≤ k) (.slice A2 acc.length c2) (strs acc) (.string (strB y)) rfl (by rw [World.size_alloc]; rfl) rfl (HRW.out.alloc _) (fun k hk => by have h1 := HK2.out.size; have h2 := World.size_alloc w2 (.cells #[.string (strB c'), .bool true, .string (strB t')] 54); omega) (by rw [strs_length]; omega) ?_)
                    intro v1 w3 hown hkp hob
                    have hown' : Row w3 9 (fun k => w.heap.size ≤ k) v1 (strs (acc ++ [y])) := by rw [strs_append]; exact hown
                    have hb1 := (HB1.out.alloc _).kept hkp HVR.out
                    have hb2 := (HB2.out.alloc _).kept hkp HVS.out
                    have hb3 := (HB3.out.alloc _).kept hkp HVX.out
                    have hk3 := (HK2.out.alloc (.cells #[.string (strB c'), .bool true, .string (strB t')] 54)).trans hkp fun b hb => .inr (HRW.out.2 b hb)
                    have hvX1 : v1.ownBlock ≠ some (w1.heap.size + 1 + 1) := hown.ne_blk hb3 (by decide)
                    have hvR1 : v1.ownBlock ≠ some w.heap.size := hown.ne_blk hb1 (by decide)
                    obtain ⟨A3, n3, c3, hv3⟩ := hown.slice
                    subst hv3
                    have HO := Lib.hid hown'
                    have HC1 := Lib.hid hb1
                    have HC2 := Lib.hid hb2
                    have HC3 := Lib.hid hb3
                    have HK3 := Lib.hid hk3
                    have HVX1 := Lib.hid hvX1
                    have HVR1 := Lib.hid hvR1
                    clear r0 r1 r2 q0 q1 q2 s0 s1 s2 x0 x1 x2 y0 y1 y2
                    obtain ⟨r0, r1, r2, q0, q1, q2⟩ := hb1.cells3
                    obtain ⟨x0, x1, x2, y0, y1, y2⟩ := hb3.cells3
                    have hl1' := hb1.lt
                    have hl3' := hb3.lt
                    clear hown hown' hkp hob hb1 hb2 hb3 hk3 hvX1 hvR1
                    go_wp2_with fail
                    go_roundg (n - (i + 1))
                    case measure => have := HG.out; have := HLN.out; omega
                    case rel => exact ⟨i + 1, acc ++ [y], _, by omega, by have := HLN.out; omega, by go_num, HRU2.out, by rw [List.length_append]; simp; omega, HC1.out.far (p := ⟨w1.heap.size + 1 + 1, 1, none⟩) hRR _, HC2.out.far (p := ⟨w1.heap.size + 1 + 1, 1, none⟩) (show ¬ w1.heap.size = w1.heap.size + 1 + 1 by omega) _, HC3.out.set_ 1 _, HO.out.far (p := ⟨w1.heap.size + 1 + 1, 1, none⟩) HVX1.out _, HK3.out.setCell (p := ⟨w1.heap.size + 1 + 1, 1, none⟩) (.inr (by have := HK1.out.size; show w.heap.size ≤ w1.heap.size + 1 + 1; omega)) _⟩
                | false =>
                  have hla : lastF 3 c y = none := by unfold lastF; rw [HSY.out]; exact if_neg hcc
                  have HLA := Lib.hid hla
                  clear hla
                  by_cases h20 : 20 ≤ acc.length
                  · have h20' : (20 : Int) ≤ (acc.length : Int) := by omega
                    have hst : stepM 3 (some (c, acc)) y = (none, 72, none) := by rw [stepM3, HLA.out]; simp only [if_pos h20]
                    obtain ⟨hnil, hres⟩ := runsE_stop HRU.out hst (.inr (by decide))
                    subst hres
                    have hnn := drop_nil_len hil hnil
                    have HNN := Lib.hid hnn
                    clear hst hnil hnn
                    go_wp2_with fail
                    refine bodyPost_ret (results_cell_row4 rfl _ _ w.heap.size 30 _ (0, 0) _ (.int .i64 ((i + 1 : Nat) : Int)) (.bool false) (.int .i64 72) rfl (by first | rfl | exact congrArg (Value.int .i64) (by omega)) rfl rfl ((HB1.out.set3 (.string ByteArray.empty) (.slice none 0 0) (.slice none 0 0)).alloc _) Tryd.underlying30 rfl rp_size) rfl ?_
                    exact ⟨_, i + 1, rfl, fun _ => by have := HNN.out; have := HLN.out; omega, Row.nil _ _ _, (HK2.out.set3 (.inr (Nat.le_refl _)) _ _ _).alloc _⟩
                  · have h20' : ¬ (20 : Int) ≤ (acc.length : Int) := by omega
                    have hst : stepM 3 (some (c, acc)) y = (none, 0, some (c, acc ++ [y])) := by rw [stepM3, HLA.out]; simp only [if_neg h20]
                    have HRU2 := Lib.hid (runsE_go HRU.out hst)
                    clear hst
                    go_wp2_with (at_builtin; refine wpList_app1 (W := w2.alloc (.cells #[.string (strB c'), .bool false, .string (strB t')] 54)) rfl _ _ 22 9 (.string ByteArray.empty) 16 rfl Tryd.underlying22 info_str rfl (by decide) (fun k => w.heap.size ≤ k) (.slice A2 acc.length c2) (strs acc) (.string (strB y)) rfl (by rw [World.size_alloc]; rfl) rfl (HRW.out.alloc _) (fun k hk => by have h1 := HK2.out.size; have h2 := World.size_alloc w2 (.cells #[.string (strB c'), .bool false, .string (strB t')] 54); omega) (by rw [strs_length]; omega) ?_)
                    intro v1 w3 hown hkp hob
                    have hown' : Row w3 9 (fun k => w.heap.size ≤ k) v1 (strs (acc ++ [y])) := by rw [strs_append]; exact hown
                    have hb1 := (HB1.out.alloc _).kept hkp HVR.out
                    have hb2 := (HB2.out.alloc _).kept hkp HVS.out
                    have hb3 := (HB3.out.alloc _).kept hkp HVX.out
                    have hk3 := (HK2.out.alloc (.cells #[.string (strB c'), .bool false, .string (strB t')] 54)).trans hkp fun b hb => .inr (HRW.out.2 b hb)
                    have hvX1 : v1.ownBlock ≠ some (w1.heap.size + 1 + 1) := hown.ne_blk hb3 (by decide)
                    have hvR1 : v1.ownBlock ≠ some w.heap.size := hown.ne_blk hb1 (by decide)
                    obtain ⟨A3, n3, c3, hv3⟩ := hown.slice
                    subst hv3
                    have HO := Lib.hid hown'
                    have HC1 := Lib.hid hb1
                    have HC2 := Lib.hid hb2
                    have HC3 := Lib.hid hb3
                    have HK3 := Lib.hid hk3
                    have HVX1 := Lib.hid hvX1
                    have HVR1 := Lib.hid hvR1
                    clear r0 r1 r2 q0 q1 q2 s0 s1 s2 x0 x1 x2 y0 y1 y2
                    obtain ⟨r0, r1, r2, q0, q1, q2⟩ := hb1.cells3
                    obtain ⟨x0, x1, x2, y0, y1, y2⟩ := hb3.cells3
                    have hl1' := hb1.lt
                    have hl3' := hb3.lt
                    clear hown hown' hkp hob hb1 hb2 hb3 hk3 hvX1 hvR1
                    go_wp2_with fail
                    go_roundg (n - (i + 1))
                    case measure => have := HG.out; have := HLN.out; omega
                    case rel => exact ⟨i + 1, acc ++ [y], _, by omega, by have := HLN.out; omega, by go_num, HRU2.out, by rw [List.length_append]; simp; omega, HC1.out.far (p := ⟨w1.heap.size + 1 + 1, 1, none⟩) hRR _, HC2.out.far (p := ⟨w1.heap.size + 1 + 1, 1, none⟩) (show ¬ w1.heap.size = w1.heap.size + 1 + 1 by omega) _, HC3.out.set_ 1 _, HO.out.far (p := ⟨w1.heap.size + 1 + 1, 1, none⟩) HVX1.out _, HK3.out.setCell (p := ⟨w1.heap.size + 1 + 1, 1, none⟩) (.inr (by have := HK1.out.size; show w.heap.size ≤ w1.heap.size + 1 + 1; omega)) _⟩
        · obtain rfl : i = n := by omega
          have hnil : L.drop i = [] := List.drop_eq_nil_iff.2 (by have := HLN.out; omega)
          rw [hnil] at hrun
          have hres : res = (none, 0, some (c, acc)) := hrun
          subst hres
          obtain ⟨r0, r1, r2, q0, q1, q2⟩ := HR.out.cells3
          clear hnil hrun
          go_wp2_with fail
          refine bodyPost_ret (results_cell_row4 rfl _ _ w.heap.size 30 _ (0, 0) _ (.int .i64 ((i : Nat) : Int)) (.bool false) (.int .i64 0) rfl rfl rfl rfl (HR.out.set3 (.string ByteArray.empty) (.slice none 0 0) (.slice none 0 0)) Tryd.underlying30 rfl rp_size) rfl ?_
          exact ⟨_, i, rfl, fun _ => rfl, Row.nil _ _ _, HKR.out.set3 (.inr (Nat.le_refl _)) _ _ _⟩
end Go.Proofs.YtamemddgajmimaaDoor
