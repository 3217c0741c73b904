/- Addresses: the reference's Text. -/
import Derived.Test.YtlbipnfnimekfaaDoorAddrT
import Derived.Test.YtlbipnfnimekfaaDoorDig
set_option linter.unusedVariables false
set_option linter.unusedSimpArgs false
namespace Go.Proofs.YtlbipnfnimekfaaDoor
open Go.RowKit Go.Shelf

def preT (l : List Int) : List UInt8 := l.flatMap fun n => Lib.itoa n ++ [44]
theorem preT_snoc (l : List Int) (n : Int) : preT (l ++ [n]) = (preT l ++ Lib.itoa n) ++ [44] := by simp [preT]
theorem preT_len : ∀ (l : List Int), (∀ n ∈ l, okI n) → (preT l).length ≤ 22 * l.length
  | [], _ => by simp [preT]
  | n :: l, h => by
    have h1 := itoa_len n (h n (by simp)).1 (h n (by simp)).2
    have h2 := preT_len l fun m hm => h m (by simp [hm])
    simp only [preT, List.flatMap_cons, List.length_append, List.length_cons, List.length_nil] at h2 ⊢
    omega
theorem textL_pre (x : AdL) : textL x = ((preT [x.a, x.b, x.c, x.d] ++ Lib.itoa (x.p / 256)) ++ [44]) ++ Lib.itoa (x.p % 256) := by
  simp [textL, sixN, Lib.join, preT]
def RtS (w0 : World) (l : List Int) (gk : Nat) (v3 v4 : Value) (wr : World) : Prop :=
  ∃ i, i ≤ 4 ∧ gk = 4 - i ∧ v4 = .int .i64 (i : Int) ∧ v3 = .string (strB (preT (l.take i))) ∧ w0 = wr
theorem comma_app (l : List UInt8) : strB l ++ (⟨#[44]⟩ : ByteArray) = strB (l ++ [44]) := dg_app l [44]
set_option maxHeartbeats 4000000 in
set_option maxRecDepth 100000 in
theorem refText_calls (w : World) (x : AdL) (hx : okA x) :
    Calls Tryd.prog 17 #[adV x] w fun en w' => en = .returned (.string (strB (textL x))) ∧ Kept w w' NoB := by
  have htp := textL_pre x
  have hok := six_ok hx
  obtain ⟨a, b, c, d, p⟩ := x
  have hpi := hx.2.2.2.2
  unfold okI at hpi
  simp only at hpi htp
  obtain ⟨hp0, hp1⟩ := hpi
  have hq0 := hok (p / 256) (by simp [sixN])
  have hr0 := hok (p % 256) (by simp [sixN])
  obtain ⟨l, hl⟩ : ∃ l, [a, b, c, d] = l := ⟨_, rfl⟩
  rw [hl] at htp
  have hl4 : l.length = 4 := by rw [← hl]; rfl
  have hokl : ∀ n ∈ l, okI n := fun n hn => hok n (by rw [← hl] at hn; simp only [sixN, List.mem_cons, List.not_mem_nil, or_false] at hn ⊢; omega)
  have hcellF : ∀ (w' : World) g, Blk w' g 29 #[.int .i64 a, .int .i64 b, .int .i64 c, .int .i64 d, .int .i64 p] → ∀ i n, l[i]? = some n → w'.cell? ⟨g, i, none⟩ = some (.int .i64 n) := by
    intro w' g hB i n hi
    rw [hB.cell]
    subst hl
    rcases i with _ | _ | _ | _ | i
    · simp at hi; subst hi; rfl
    · simp at hi; subst hi; rfl
    · simp at hi; subst hi; rfl
    · simp at hi; subst hi; rfl
    · simp at hi
  have HTP := Lib.hid htp
  have HX := Lib.hid hx
  have HOKL := Lib.hid hokl
  have HL4 := Lib.hid hl4
  have HCF := Lib.hid hcellF
  have HQ0 := Lib.hid hq0
  have HR0 := Lib.hid hr0
  clear htp hok hx hq0 hr0 hokl hcellF hl hl4
  unfold adV
  go_enter Tryd.func17, Tryd.ntmps17
  go_wp2_with fail
  have HB := Lib.hid (Blk.new w 29 #[.int .i64 a, .int .i64 b, .int .i64 c, .int .i64 d, .int .i64 p])
  have HK := Lib.hid ((Kept.refl w NoB).alloc (.cells #[.int .i64 a, .int .i64 b, .int .i64 c, .int .i64 d, .int .i64 p] 29))
  generalize w.alloc (.cells #[.int .i64 a, .int .i64 b, .int .i64 c, .int .i64 d, .int .i64 p] 29) = W0 at *
  go_loopg [3, 4] 4 (fun gk v3 v4 wr => RtS W0 l gk v3 v4 wr)
  case atStart => exact ⟨0, Nat.zero_le _, rfl, rfl, rfl, rfl⟩
  case round =>
    obtain ⟨i, hi, hgk, rfl, rfl, rfl⟩ := hrel
    have HG := Lib.hid hgk
    clear hgk
    rcases Nat.lt_or_ge i 4 with hlt | hge
    · have hlt' : i < l.length := by rw [HL4.out]; exact hlt
      obtain ⟨n, hn⟩ : ∃ n, l[i]? = some n := ⟨_, List.getElem?_eq_getElem hlt'⟩
      have hc := HCF.out _ _ HB.out i n hn
      have hon := HOKL.out n (List.mem_of_getElem? hn)
      have hmore : preT (l.take (i + 1)) = (preT (l.take i) ++ Lib.itoa n) ++ [44] := by
        rw [List.take_add_one, hn]
        exact preT_snoc _ _
      have hpl := preT_len (l.take i) fun m hm => HOKL.out m (List.mem_of_mem_take hm)
      rw [List.length_take, HL4.out] at hpl
      have hil := itoa_len n hon.1 hon.2
      obtain ⟨P, hP⟩ : ∃ P, preT (l.take i) = P := ⟨_, rfl⟩
      obtain ⟨Q, hQ⟩ : ∃ Q, Lib.itoa n = Q := ⟨_, rfl⟩
      have HD := Lib.hid (refDigits_calls W0 n hon.1 hon.2)
      rw [hP] at hmore hpl ⊢
      rw [hQ] at hmore hil HD
      have e1 := dg_app P Q
      have e2 := comma_app (P ++ Q)
      have hpq : (P ++ Q).length ≤ 109 := by rw [List.length_append]; omega
      have HM := Lib.hid hmore
      clear hmore hn hon hP hQ hlt'
      go_wp2_with fail
      refine HD.out.mono ?_
      rintro en _ ⟨rfl, rfl⟩
      go_wp2_with fail
      go_roundg (4 - (i + 1))
      case measure => have := HG.out; omega
      case rel => exact ⟨i + 1, hlt, rfl, by go_num, by rw [HM.out]; simp, rfl⟩
    · obtain rfl : i = 4 := by omega
      have htk : l.take 4 = l := List.take_of_length_le (by rw [HL4.out]; exact Nat.le_refl _)
      rw [htk]
      have hc4 : W0.cell? ⟨w.heap.size, 4, none⟩ = some (.int .i64 p) := by rw [HB.out.cell]; rfl
      have hpl := preT_len l HOKL.out
      rw [HL4.out] at hpl
      have hil1 := itoa_len _ HQ0.out.1 HQ0.out.2
      have hil2 := itoa_len _ HR0.out.1 HR0.out.2
      have HD1 := Lib.hid (refDigits_calls W0 (p / 256) HQ0.out.1 HQ0.out.2)
      have HD2 := Lib.hid (refDigits_calls W0 (p % 256) HR0.out.1 HR0.out.2)
      have htp := HTP.out
      obtain ⟨P, hP⟩ : ∃ P, preT l = P := ⟨_, rfl⟩
      obtain ⟨Q, hQ⟩ : ∃ Q, Lib.itoa (p / 256) = Q := ⟨_, rfl⟩
      obtain ⟨R, hR⟩ : ∃ R, Lib.itoa (p % 256) = R := ⟨_, rfl⟩
      rw [hP] at hpl htp ⊢
      rw [hQ] at hil1 HD1 htp
      rw [hR] at hil2 HD2 htp
      have e1 := dg_app P Q
      have e2 := comma_app (P ++ Q)
      have e3 := dg_app ((P ++ Q) ++ [44]) R
      have hpq : (P ++ Q).length ≤ 109 := by rw [List.length_append]; omega
      have hpq2 : ((P ++ Q) ++ [44]).length ≤ 110 := by rw [List.length_append]; simp only [List.length_cons, List.length_nil]; omega
      have HTX := Lib.hid htp
      clear htp hP hQ hR htk
      have hhi : if p.tmod 256 < 0 then p.tdiv 256 - 1 = p / 256 ∧ p.tmod 256 + 256 = p % 256 else p.tdiv 256 = p / 256 ∧ p.tmod 256 = p % 256 := by
        split
        · rename_i h
          have h2 := Int.mul_tdiv_add_tmod p 256
          have h3 : -256 < p.tmod 256 := by have := Int.lt_tmod_of_pos p (show (0:Int) < 256 by decide); omega
          omega
        · rename_i h
          have h2 := Int.mul_tdiv_add_tmod p 256
          have h3 : p.tmod 256 < 256 := Int.tmod_lt_of_pos p (by decide)
          omega
      have wd : IntKind.i64.wrap (p.tdiv 256) = p.tdiv 256 := by
        refine IntWalk.i64_in _ ?_
        split at hhi <;> omega
      obtain ⟨hi, hhi1⟩ : ∃ m, p.tdiv 256 = m := ⟨_, rfl⟩
      obtain ⟨lo, hlo1⟩ : ∃ m, p.tmod 256 = m := ⟨_, rfl⟩
      rw [hhi1, hlo1] at hhi
      rw [hhi1] at wd
      by_cases hlow : lo < 0
      · rw [if_pos hlow] at hhi
        obtain ⟨f1, f2⟩ := hhi
        go_wp2_with fail
        refine HD1.out.mono ?_
        rintro en _ ⟨rfl, rfl⟩
        go_wp2_with fail
        refine HD2.out.mono ?_
        rintro en _ ⟨rfl, rfl⟩
        go_wp2_with fail
        go_ret
        exact ⟨by rw [HTX.out]; simp [dg_app], HK.out⟩
      · rw [if_neg hlow] at hhi
        obtain ⟨f1, f2⟩ := hhi
        go_wp2_with fail
        refine HD1.out.mono ?_
        rintro en _ ⟨rfl, rfl⟩
        go_wp2_with fail
        refine HD2.out.mono ?_
        rintro en _ ⟨rfl, rfl⟩
        go_wp2_with fail
        go_ret
        exact ⟨by rw [HTX.out]; simp [dg_app], HK.out⟩
end Go.Proofs.YtlbipnfnimekfaaDoor
