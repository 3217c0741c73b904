/- ReplyMany's walk. -/
import Derived.Test.YtamemddgajmimaaDoorRepS
import Derived.Test.YtamemddgajmimaaDoorRowW
set_option linter.unusedVariables false
set_option linter.unusedSimpArgs false
namespace Go.Proofs.YtamemddgajmimaaDoor
open Go.RowKit Go.Shelf

def c250 : List UInt8 := [50, 53, 48]
/-- In the middle of a reply of so many lines, or at rest. -/
def StK (st : Option Rp) (k : Nat) : Prop := (k = 0 ∧ st = none) ∨ ∃ ls, st = some (c250, ls) ∧ ls.length = k ∧ 1 ≤ k
def mL : List UInt8 := [50, 53, 48, 45, 120]
def lL : List UInt8 := [50, 53, 48, 32, 120]
theorem st_mL {p : Int} (h : p = 1 ∨ p = 3) : statusL p mL = some (c250, true, [120]) := by rcases h with rfl | rfl <;> decide
theorem st_lL {p : Int} (h : p = 1 ∨ p = 3) : statusL p lL = some (c250, false, [120]) := by rcases h with rfl | rfl <;> decide
theorem many_more {p : Int} (hp : p = 1 ∨ p = 3) {st : Option Rp} {k : Nat} (h : StK st k) (hk : k < 20) : ∃ st', stepM p st mL = (none, 0, st') ∧ StK st' (k + 1) := by
  rcases h with ⟨rfl, rfl⟩ | ⟨ls, rfl, hl, h1⟩
  · exact ⟨some (c250, [[120]]), by simp [stepM, st_mL hp], .inr ⟨_, rfl, rfl, by omega⟩⟩
  · have h20 : ¬ 20 ≤ ls.length := by omega
    rcases hp with rfl | rfl
    · exact ⟨some (c250, ls ++ [[120]]), by rw [stepM1 (st_mL (.inl rfl)) rfl, if_neg h20]; rfl, .inr ⟨_, rfl, by simp [hl], by omega⟩⟩
    · refine ⟨some (c250, ls ++ [mL]), ?_, .inr ⟨_, rfl, by simp [hl], by omega⟩⟩
      have hf : lastF 3 c250 mL = none := by decide
      rw [stepM3, hf]
      simp [h20]
theorem many_last {p : Int} (hp : p = 1 ∨ p = 3) {st : Option Rp} {k : Nat} (h : StK st k) (hk : k < 20) : ∃ ls, stepM p st lL = (some (c250, ls), 0, none) ∧ ls.length = k + 1 := by
  rcases h with ⟨rfl, rfl⟩ | ⟨ls, rfl, hl, h1⟩
  · exact ⟨[[120]], by simp [stepM, st_lL hp], rfl⟩
  · have h20 : ¬ 20 ≤ ls.length := by omega
    refine ⟨ls ++ [[120]], ?_, by simp [hl]⟩
    rcases hp with rfl | rfl
    · rw [stepM1 (st_lL (.inl rfl)) rfl, if_neg h20]
      rfl
    · have hf : lastF 3 c250 lL = some [120] := by decide
      rw [stepM3, hf]
      simp [h20]
theorem many_full {p : Int} (hp : p = 1 ∨ p = 3) {st : Option Rp} {s : List UInt8} (h : StK st 20) (hs : s = mL ∨ s = lL) : stepM p st s = (none, 72, none) := by
  rcases h with ⟨h0, _⟩ | ⟨ls, rfl, hl, h1⟩
  · omega
  · have h20 : 20 ≤ ls.length := by omega
    rcases hp with rfl | rfl
    · rcases hs with rfl | rfl
      · rw [stepM1 (st_mL (.inl rfl)) rfl, if_pos h20]
      · rw [stepM1 (st_lL (.inl rfl)) rfl, if_pos h20]
    · rcases hs with rfl | rfl
      · have hf : lastF 3 c250 mL = none := by decide
        rw [stepM3, hf]
        simp [h20]
      · have hf : lastF 3 c250 lL = some [120] := by decide
        rw [stepM3, hf]
        simp [h20]
def ManyS (w0 : World) (g : Nat) (p : Int) (many gk : Nat) (v9 : Value) (wr : World) : Prop :=
  ∃ (i : Nat) (st : Option Rp) (v : Value), v9 = .int .i64 (i : Int) ∧ 1 ≤ i ∧ gk = many + 1 - i ∧ ((i ≤ many ∧ i ≤ 21 ∧ StK st (i - 1) ∧ MkSt wr g p st v) ∨ (i = many + 1 ∧ many ≤ 20)) ∧ Kept w0 wr NoB ∧ w0.heap.size ≤ g ∧ ∀ k, OB v k → w0.heap.size ≤ k
/-- What a line more of a maker of the call's own leaves of the world. -/
theorem kept_line {w0 wr w' : World} {g : Nat} {v : Value} (hk : Kept w0 wr NoB) (hg : w0.heap.size ≤ g) (hv : ∀ k, OB v k → w0.heap.size ≤ k) (h : Kept wr w' (fun k => k = g ∨ OB v k)) : Kept w0 w' NoB :=
  hk.trans h fun b hb => .inr (by
    rcases hb with rfl | hb
    · exact hg
    · exact hv b hb)
set_option maxHeartbeats 4000000 in
set_option maxRecDepth 100000 in
theorem many_law_false (w : World) (x : Nat) (hx : x < 256) (hm : MaxI w) :
    Calls Tryd.prog 8 #[.int .u8 (x : Int), .bool false] w fun en w' => en = .returned (.bool true) ∧ Kept w w' NoB := by
  obtain ⟨q, hq⟩ : ∃ q, x % 30 = q := ⟨_, rfl⟩
  have hq30 : q < 30 := by omega
  have hqI : (x : Int) % 30 = (q : Int) := by omega
  clear hq
  go_enter Tryd.func8, Tryd.ntmps8
  go_wp2_with fail
  refine (shown_calls w hm).mono ?_
  rintro en w1 ⟨rfl, hk1⟩
  have HK1 := Lib.hid hk1
  have hsz1 := hk1.size
  clear hk1
  go_wp2_with fail
  refine (new_calls w1 1).mono ?_
  rintro en w2 ⟨rfl, hw2⟩
  have h2 := MkSt.new w1 1
  rw [← hw2] at h2
  have hk2 : Kept w w2 NoB := by rw [hw2]; exact HK1.out.alloc _
  have H2 := Lib.hid h2
  have HK2 := Lib.hid hk2
  clear hw2 h2 hk2
  go_wp2_with fail
  go_loopg [9] (q + 1) (fun gk v9 wr => ManyS w w1.heap.size 1 (q + 1) gk v9 wr)
  case atStart => exact ⟨1, none, .slice none 0 0, rfl, by omega, by omega, .inl ⟨by omega, by omega, .inl ⟨rfl, rfl⟩, H2.out⟩, HK2.out, hsz1, fun k hk => absurd hk ob_nil⟩
  case round =>
    obtain ⟨i, st, v, rfl, hi1, hgk, hcase, hkr, hg, hv⟩ := hrel
    have HG := Lib.hid hgk
    have HKR := Lib.hid hkr
    have HV := Lib.hid hv
    clear hgk hkr hv hqI
    rcases hcase with ⟨hi, hi21, hst, hmk⟩ | ⟨hie, h20⟩
    · have HMK := Lib.hid hmk
      have HST := Lib.hid hst
      clear hmk hst
      by_cases hlast : i = q + 1
      · have tl : ((i : Int) == 1 + (q : Int)) = true := by rw [beq_iff_eq]; omega
        have tl' : (i : Int) ≤ 1 + (q : Int) := by omega
        by_cases h21 : i = 21
        · have t20 : (20 : Int) < (i : Int) := by omega
          have hst20 : StK st 20 := by have := HST.out; rwa [h21] at this
          have HFU := Lib.hid (many_full (s := lL) (.inl rfl) hst20 (.inr rfl))
          clear hst20 h21 hlast
          go_wp2_with fail
          refine (line_at wr _ 1 st v lL false _ _ rfl HFU.out HMK.out (by decide) (hm.kept0 HKR.out) (by decide)).mono ?_
          rintro en w3 ⟨vr, v3, rfl, hr, h3, hk3, ho3, _⟩
          simp only [rpV, Option.getD_none, Option.isSome_none]
          obtain ⟨A1, c1, rfl, _⟩ := hr.readsN (n := 0) rfl
          have H3 := Lib.hid h3
          have HK3 := Lib.hid (kept_line HKR.out hg HV.out hk3)
          clear hr h3 hk3 ho3
          go_wp2_with fail
          refine (busy_calls _ w1.heap.size 1 none v3 (H3.out.kept0 ((Kept.refl _ _).alloc _))).mono ?_
          rintro en w4 ⟨rfl, rfl⟩
          go_wp2_with fail
          go_ret
          exact ⟨rfl, HK3.out.alloc _⟩
        · have t20 : ¬ (20 : Int) < (i : Int) := by omega
          obtain ⟨ls, hs1, hs2⟩ := many_last (.inl rfl) HST.out (show i - 1 < 20 by omega)
          have HS1 := Lib.hid hs1
          have HS2 := Lib.hid hs2
          clear hs1 hs2
          go_wp2_with fail
          refine (line_at wr _ 1 st v lL false _ _ rfl HS1.out HMK.out (by decide) (hm.kept0 HKR.out) (by decide)).mono ?_
          rintro en w3 ⟨vr, v3, rfl, hr, h3, hk3, ho3, _⟩
          simp only [rpV, Option.getD_some, Option.isSome_some] at hr ⊢
          obtain ⟨A1, c1, rfl, _⟩ := hr.readsN (n := i) (by rw [strs_length]; have := HS2.out; omega)
          have HK3 := Lib.hid (kept_line HKR.out hg HV.out hk3)
          clear hr h3 hk3 ho3
          go_wp2_with fail
          go_roundg (q + 1 - i)
          case measure => have := HG.out; omega
          case rel => exact ⟨i + 1, none, .slice none 0 0, by go_num, by omega, by omega, .inr ⟨by omega, by omega⟩, HK3.out.alloc _, hg, fun k hk => absurd hk ob_nil⟩
      · have tl : ((i : Int) == 1 + (q : Int)) = false := by rw [beq_eq_false_iff_ne]; omega
        have tl' : (i : Int) ≤ 1 + (q : Int) := by omega
        by_cases h21 : i = 21
        · have t20 : (20 : Int) < (i : Int) := by omega
          have hst20 : StK st 20 := by have := HST.out; rwa [h21] at this
          have HFU := Lib.hid (many_full (s := mL) (.inl rfl) hst20 (.inl rfl))
          clear hst20 h21 hlast
          go_wp2_with fail
          refine (line_at wr _ 1 st v mL false _ _ rfl HFU.out HMK.out (by decide) (hm.kept0 HKR.out) (by decide)).mono ?_
          rintro en w3 ⟨vr, v3, rfl, hr, h3, hk3, ho3, _⟩
          simp only [rpV, Option.getD_none, Option.isSome_none]
          obtain ⟨A1, c1, rfl, _⟩ := hr.readsN (n := 0) rfl
          have H3 := Lib.hid h3
          have HK3 := Lib.hid (kept_line HKR.out hg HV.out hk3)
          clear hr h3 hk3 ho3
          go_wp2_with fail
          refine (busy_calls _ w1.heap.size 1 none v3 (H3.out.kept0 ((Kept.refl _ _).alloc _))).mono ?_
          rintro en w4 ⟨rfl, rfl⟩
          go_wp2_with fail
          go_ret
          exact ⟨rfl, HK3.out.alloc _⟩
        · have t20 : ¬ (20 : Int) < (i : Int) := by omega
          obtain ⟨st', hs1, hs2⟩ := many_more (.inl rfl) HST.out (show i - 1 < 20 by omega)
          have HS1 := Lib.hid hs1
          have HS2 := Lib.hid hs2
          clear hs1 hs2
          go_wp2_with fail
          refine (line_at wr _ 1 st v mL false _ _ rfl HS1.out HMK.out (by decide) (hm.kept0 HKR.out) (by decide)).mono ?_
          rintro en w3 ⟨vr, v3, rfl, hr, h3, hk3, ho3, _⟩
          simp only [rpV, Option.getD_none, Option.isSome_none] at hr ⊢
          obtain ⟨A1, c1, rfl, _⟩ := hr.readsN (n := 0) rfl
          have hsr := HKR.out.size
          have HO3 : Hid (∀ k, OB v3 k → w.heap.size ≤ k) := fun k hk => (ho3 k hk).elim (HV.out k) fun h => by omega
          have H3 := Lib.hid h3
          have HK3 := Lib.hid (kept_line HKR.out hg HV.out hk3)
          clear hr h3 hk3 ho3
          go_wp2_with fail
          go_roundg (q + 1 - i)
          case measure => have := HG.out; omega
          case rel => exact ⟨i + 1, st', v3, by go_num, by omega, by omega, .inl ⟨by omega, by omega, by rw [show i + 1 - 1 = i - 1 + 1 by omega]; exact HS2.out, H3.out.kept0 ((Kept.refl _ _).alloc _)⟩, HK3.out.alloc _, hg, HO3.out⟩
    · have tl' : ¬ (i : Int) ≤ 1 + (q : Int) := by omega
      have tq : 1 + (q : Int) ≤ 20 := by omega
      clear HG
      go_wp2_with fail
      go_ret
      exact ⟨rfl, HKR.out⟩
set_option maxHeartbeats 4000000 in
set_option maxRecDepth 100000 in
theorem many_law_true (w : World) (x : Nat) (hx : x < 256) (hm : MaxI w) :
    Calls Tryd.prog 8 #[.int .u8 (x : Int), .bool true] w fun en w' => en = .returned (.bool true) ∧ Kept w w' NoB := by
  obtain ⟨q, hq⟩ : ∃ q, x % 30 = q := ⟨_, rfl⟩
  have hq30 : q < 30 := by omega
  have hqI : (x : Int) % 30 = (q : Int) := by omega
  clear hq
  go_enter Tryd.func8, Tryd.ntmps8
  go_wp2_with fail
  refine (shown_calls w hm).mono ?_
  rintro en w1 ⟨rfl, hk1⟩
  have HK1 := Lib.hid hk1
  have hsz1 := hk1.size
  clear hk1
  go_wp2_with fail
  refine (new_calls w1 3).mono ?_
  rintro en w2 ⟨rfl, hw2⟩
  have h2 := MkSt.new w1 3
  rw [← hw2] at h2
  have hk2 : Kept w w2 NoB := by rw [hw2]; exact HK1.out.alloc _
  have H2 := Lib.hid h2
  have HK2 := Lib.hid hk2
  clear hw2 h2 hk2
  go_wp2_with fail
  go_loopg [9] (q + 1) (fun gk v9 wr => ManyS w w1.heap.size 3 (q + 1) gk v9 wr)
  case atStart => exact ⟨1, none, .slice none 0 0, rfl, by omega, by omega, .inl ⟨by omega, by omega, .inl ⟨rfl, rfl⟩, H2.out⟩, HK2.out, hsz1, fun k hk => absurd hk ob_nil⟩
  case round =>
    obtain ⟨i, st, v, rfl, hi1, hgk, hcase, hkr, hg, hv⟩ := hrel
    have HG := Lib.hid hgk
    have HKR := Lib.hid hkr
    have HV := Lib.hid hv
    clear hgk hkr hv hqI
    rcases hcase with ⟨hi, hi21, hst, hmk⟩ | ⟨hie, h20⟩
    · have HMK := Lib.hid hmk
      have HST := Lib.hid hst
      clear hmk hst
      by_cases hlast : i = q + 1
      · have tl : ((i : Int) == 1 + (q : Int)) = true := by rw [beq_iff_eq]; omega
        have tl' : (i : Int) ≤ 1 + (q : Int) := by omega
        by_cases h21 : i = 21
        · have t20 : (20 : Int) < (i : Int) := by omega
          have hst20 : StK st 20 := by have := HST.out; rwa [h21] at this
          have HFU := Lib.hid (many_full (s := lL) (.inr rfl) hst20 (.inr rfl))
          clear hst20 h21 hlast
          go_wp2_with fail
          refine (line_at wr _ 3 st v lL false _ _ rfl HFU.out HMK.out (by decide) (hm.kept0 HKR.out) (by decide)).mono ?_
          rintro en w3 ⟨vr, v3, rfl, hr, h3, hk3, ho3, _⟩
          simp only [rpV, Option.getD_none, Option.isSome_none]
          obtain ⟨A1, c1, rfl, _⟩ := hr.readsN (n := 0) rfl
          have H3 := Lib.hid h3
          have HK3 := Lib.hid (kept_line HKR.out hg HV.out hk3)
          clear hr h3 hk3 ho3
          go_wp2_with fail
          refine (busy_calls _ w1.heap.size 3 none v3 (H3.out.kept0 ((Kept.refl _ _).alloc _))).mono ?_
          rintro en w4 ⟨rfl, rfl⟩
          go_wp2_with fail
          go_ret
          exact ⟨rfl, HK3.out.alloc _⟩
        · have t20 : ¬ (20 : Int) < (i : Int) := by omega
          obtain ⟨ls, hs1, hs2⟩ := many_last (.inr rfl) HST.out (show i - 1 < 20 by omega)
          have HS1 := Lib.hid hs1
          have HS2 := Lib.hid hs2
          clear hs1 hs2
          go_wp2_with fail
          refine (line_at wr _ 3 st v lL false _ _ rfl HS1.out HMK.out (by decide) (hm.kept0 HKR.out) (by decide)).mono ?_
          rintro en w3 ⟨vr, v3, rfl, hr, h3, hk3, ho3, _⟩
          simp only [rpV, Option.getD_some, Option.isSome_some] at hr ⊢
          obtain ⟨A1, c1, rfl, _⟩ := hr.readsN (n := i) (by rw [strs_length]; have := HS2.out; omega)
          have HK3 := Lib.hid (kept_line HKR.out hg HV.out hk3)
          clear hr h3 hk3 ho3
          go_wp2_with fail
          go_roundg (q + 1 - i)
          case measure => have := HG.out; omega
          case rel => exact ⟨i + 1, none, .slice none 0 0, by go_num, by omega, by omega, .inr ⟨by omega, by omega⟩, HK3.out.alloc _, hg, fun k hk => absurd hk ob_nil⟩
      · have tl : ((i : Int) == 1 + (q : Int)) = false := by rw [beq_eq_false_iff_ne]; omega
        have tl' : (i : Int) ≤ 1 + (q : Int) := by omega
        by_cases h21 : i = 21
        · have t20 : (20 : Int) < (i : Int) := by omega
          have hst20 : StK st 20 := by have := HST.out; rwa [h21] at this
          have HFU := Lib.hid (many_full (s := mL) (.inr rfl) hst20 (.inl rfl))
          clear hst20 h21 hlast
          go_wp2_with fail
          refine (line_at wr _ 3 st v mL false _ _ rfl HFU.out HMK.out (by decide) (hm.kept0 HKR.out) (by decide)).mono ?_
          rintro en w3 ⟨vr, v3, rfl, hr, h3, hk3, ho3, _⟩
          simp only [rpV, Option.getD_none, Option.isSome_none]
          obtain ⟨A1, c1, rfl, _⟩ := hr.readsN (n := 0) rfl
          have H3 := Lib.hid h3
          have HK3 := Lib.hid (kept_line HKR.out hg HV.out hk3)
          clear hr h3 hk3 ho3
          go_wp2_with fail
          refine (busy_calls _ w1.heap.size 3 none v3 (H3.out.kept0 ((Kept.refl _ _).alloc _))).mono ?_
          rintro en w4 ⟨rfl, rfl⟩
          go_wp2_with fail
          go_ret
          exact ⟨rfl, HK3.out.alloc _⟩
        · have t20 : ¬ (20 : Int) < (i : Int) := by omega
          obtain ⟨st', hs1, hs2⟩ := many_more (.inr rfl) HST.out (show i - 1 < 20 by omega)
          have HS1 := Lib.hid hs1
          have HS2 := Lib.hid hs2
          clear hs1 hs2
          go_wp2_with fail
          refine (line_at wr _ 3 st v mL false _ _ rfl HS1.out HMK.out (by decide) (hm.kept0 HKR.out) (by decide)).mono ?_
          rintro en w3 ⟨vr, v3, rfl, hr, h3, hk3, ho3, _⟩
          simp only [rpV, Option.getD_none, Option.isSome_none] at hr ⊢
          obtain ⟨A1, c1, rfl, _⟩ := hr.readsN (n := 0) rfl
          have hsr := HKR.out.size
          have HO3 : Hid (∀ k, OB v3 k → w.heap.size ≤ k) := fun k hk => (ho3 k hk).elim (HV.out k) fun h => by omega
          have H3 := Lib.hid h3
          have HK3 := Lib.hid (kept_line HKR.out hg HV.out hk3)
          clear hr h3 hk3 ho3
          go_wp2_with fail
          go_roundg (q + 1 - i)
          case measure => have := HG.out; omega
          case rel => exact ⟨i + 1, st', v3, by go_num, by omega, by omega, .inl ⟨by omega, by omega, by rw [show i + 1 - 1 = i - 1 + 1 by omega]; exact HS2.out, H3.out.kept0 ((Kept.refl _ _).alloc _)⟩, HK3.out.alloc _, hg, HO3.out⟩
    · have tl' : ¬ (i : Int) ≤ 1 + (q : Int) := by omega
      have tq : 1 + (q : Int) ≤ 20 := by omega
      clear HG
      go_wp2_with fail
      go_ret
      exact ⟨rfl, HKR.out⟩
theorem replyMany_walk (W : World) (a0 : Int) (a1 : Bool) (w0 : (Lit.int .u8 a0).wf = true) (hsh : W.ShapedOpen Tryd.prog) :
    Calls Tryd.prog 8 #[.int .u8 a0, .bool a1] W fun en w' => en = .returned (.bool true) ∧ Below W.heap.size W w' := by
  obtain ⟨x, rfl, hx⟩ : ∃ x : Nat, a0 = (x : Int) ∧ x < 256 := by
    have h := w0
    simp only [Lit.wf, Bool.and_eq_true, decide_eq_true_eq] at h
    have e0 : IntKind.u8.min = 0 := rfl
    have e1 : IntKind.u8.max = 255 := rfl
    exact ⟨a0.toNat, by omega, by omega⟩
  have hm := MaxI.of_shape hsh
  cases a1
  · exact (many_law_false W x hx hm).mono fun _ _ ⟨he, hk⟩ => ⟨he, hk.below⟩
  · exact (many_law_true W x hx hm).mono fun _ _ ⟨he, hk⟩ => ⟨he, hk.below⟩
end Go.Proofs.YtamemddgajmimaaDoor
