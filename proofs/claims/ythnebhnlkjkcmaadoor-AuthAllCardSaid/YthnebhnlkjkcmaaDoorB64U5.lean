/- Take, the reference's. -/
import Derived.Test.YthnebhnlkjkcmaaDoorB64T5
set_option linter.unusedVariables false
set_option linter.unusedSimpArgs false
namespace Go.Proofs.YthnebhnlkjkcmaaDoor
open Go.RowKit

/-- The reference's state behind i letters. -/
def TakRS (w0 : World) (l : List UInt8) (gk : Nat) (v4 v5 v6 v7 : Value) (wr : World) : Prop :=
  ∃ (i b m : Nat) (out : List UInt8), i ≤ l.length ∧ gk = l.length - i ∧ v7 = .int .i64 i ∧ v5 = .int .i64 b ∧ v6 = .int .i64 m ∧ (b = 0 ∨ b = 2 ∨ b = 4 ∨ b = 6) ∧ m < 262144 ∧ out.length ≤ i ∧ Row wr 5 (fun k => w0.heap.size ≤ k) v4 (b8s out) ∧ Hid (decF 0 0 ((l.takeWhile isL).map val) = out ++ decF b (m % 2 ^ b) (((l.drop i).takeWhile isL).map val)) ∧ Kept w0 wr NoB
theorem while_in {l : List UInt8} {i : Nat} (hi : i < l.length) (h : val l[i] < 64) : (l.drop i).takeWhile isL = l[i] :: (l.drop (i + 1)).takeWhile isL := by
  rw [List.drop_eq_getElem_cons hi, List.takeWhile_cons]
  have : isL l[i] = true := by unfold isL; simpa using h
  rw [this]
  rfl
theorem while_out {l : List UInt8} {i : Nat} (hi : i < l.length) (h : ¬ val l[i] < 64) : (l.drop i).takeWhile isL = [] := by
  rw [List.drop_eq_getElem_cons hi, List.takeWhile_cons]
  have : isL l[i] = false := by unfold isL; simpa using h
  rw [this]
  rfl
theorem takR0 {l out : List UInt8} {i m v : Nat} (hi : i < l.length) (hv : val l[i] = v) (h64 : v < 64)
    (h : decF 0 0 ((l.takeWhile isL).map val) = out ++ decF 0 (m % 2 ^ 0) (((l.drop i).takeWhile isL).map val)) :
    decF 0 0 ((l.takeWhile isL).map val) = out ++ decF 6 ((m % 4096 * 64 + v) % 2 ^ 6) (((l.drop (i + 1)).takeWhile isL).map val) := by
  rw [h, while_in hi (by rw [hv]; exact h64), List.map_cons, hv, decF, if_neg (by decide)]
  congr 2
  omega
theorem takR1 {l out : List UInt8} {i m v b z : Nat} (hi : i < l.length) (hv : val l[i] = v) (h64 : v < 64) (hb : b = 2 ∨ b = 4 ∨ b = 6) (hz : (m % 4096 * 64 + v) / 2 ^ (b - 2) % 256 = z)
    (h : decF 0 0 ((l.takeWhile isL).map val) = out ++ decF b (m % 2 ^ b) (((l.drop i).takeWhile isL).map val)) :
    decF 0 0 ((l.takeWhile isL).map val) = (out ++ [UInt8.ofNat z]) ++ decF (b - 2) ((m % 4096 * 64 + v) % 2 ^ (b - 2)) (((l.drop (i + 1)).takeWhile isL).map val) := by
  rw [h, while_in hi (by rw [hv]; exact h64), List.map_cons, hv, decF, if_pos (by omega), List.append_assoc]
  show _ = out ++ (UInt8.ofNat z :: _)
  have e1 : (m % 2 ^ b * 64 + v) / 2 ^ (b - 2) = z := by
    rcases hb with rfl | rfl | rfl <;> simp at hz ⊢ <;> omega
  have e2 : (m % 2 ^ b * 64 + v) % 2 ^ (b - 2) = (m % 4096 * 64 + v) % 2 ^ (b - 2) := by
    rcases hb with rfl | rfl | rfl <;> simp <;> omega
  rw [e1, e2]
  rfl

set_option maxHeartbeats 2000000 in
set_option maxRecDepth 100000 in
theorem refTake_calls (w : World) (l : List UInt8) (s : ByteArray) (hs : strB l = s) (hn : l.length ≤ 1099511627776) :
    Calls Tryd.prog 28 #[.string s] w (TakePost w (takeR l)) := by
  have hsz : s.size = l.length := by rw [← hs, strB_size]
  have hat : ∀ i (h : i < s.size) (h' : i < l.length), s[i] = l[i] := by
    intro i h h'
    subst hs
    show (l.toArray[i]'(by simpa using h')) = l[i]
    rw [List.getElem_toArray]
    rfl
  have htf : takeR l = if put64 (decF 0 0 ((l.takeWhile isL).map val)) = l then some (decF 0 0 ((l.takeWhile isL).map val)) else none := rfl
  have HS := Lib.hid hs
  have HSZ := Lib.hid hsz
  have HAT := Lib.hid hat
  have HF := Lib.hid htf
  have hsz40 : s.size ≤ 1099511627776 := by omega
  clear hs hat htf hsz
  go_enter Tryd.func28, Tryd.ntmps28
  go_wp2_with fail
  go_loopg [4, 5, 6, 7] l.length (fun gk v4 v5 v6 v7 wr => TakRS w l gk v4 v5 v6 v7 wr)
  case atStart =>
    exact ⟨0, 0, 0, [], Nat.zero_le _, rfl, rfl, rfl, rfl, .inl rfl, by decide, by simp, Row.made0 _ _ _ (Nat.le_refl _), (by simp : decF 0 0 ((l.takeWhile isL).map val) = [] ++ decF 0 (0 % 2 ^ 0) (((l.drop 0).takeWhile isL).map val)), (Kept.refl _ _).alloc _⟩
  case round =>
    obtain ⟨i, b, m, out, hi, hgk, rfl, rfl, rfl, hbn, hmb, hol, hrow, hinv, hkr⟩ := hrel
    have HG := Lib.hid hgk
    have HKR := Lib.hid hkr
    clear hgk hkr
    obtain ⟨VA, vc, hvv, hvc, hrv⟩ := hrow.readsN (n := out.length) (b8s_length out)
    subst hvv
    have HROW := Lib.hid hrow
    have HRV := Lib.hid hrv
    clear hrow hrv
    have out40 : out.length ≤ 1099511627776 := by omega
    rcases Nat.lt_or_ge i l.length with hlt | hge
    · have his : i < s.size := by rw [HSZ.out]; exact hlt
      have hisI : (i : Int) < (s.size : Int) := by omega
      have hx := HAT.out i his hlt
      have HX := Lib.hid hx
      clear hx
      by_cases hlet : val l[i] < 64
      · obtain ⟨v, hv⟩ : ∃ v, val l[i] = v := ⟨_, rfl⟩
        have hvi : valI s[i] = (v : Int) := by rw [HX.out]; unfold valI; rw [if_pos hlet, hv]
        rw [hv] at hlet
        have hv0 : ¬ ((v : Int) < 0) := by omega
        have HV := Lib.hid hv
        have HVI := Lib.hid hvi
        clear hv hvi
        obtain ⟨y, hy⟩ : ∃ y, m % 4096 * 64 + v = y := ⟨_, rfl⟩
        have hyI : (m : Int) % 4096 * 64 + (v : Int) = (y : Int) := by omega
        have hyb : y < 262144 := by omega
        have HY := Lib.hid hy
        clear hy
        rcases hbn with rfl | rfl | rfl | rfl
        · have HST := Lib.hid (takR0 hlt HV.out hlet hinv.out)
          go_wp2_with fail
          refine (value_calls _ s[i] _ rfl).mono ?_
          rintro en w9 ⟨rfl, rfl⟩
          rw [HVI.out]
          go_wp2_with fail
          go_roundg (l.length - (i + 1))
          case measure => have := HG.out; omega
          case rel => exact ⟨i + 1, 6, y, out, hlt, rfl, by simp, rfl, rfl, .inr (.inr (.inr rfl)), hyb, by omega, HROW.out, by have := HST.out; rw [HY.out] at this; exact this, HKR.out⟩
        · obtain ⟨z, hz⟩ : ∃ z, y / 2 ^ 0 % 256 = z := ⟨_, rfl⟩
          have hz8 : z < 256 := by omega
          have hzI : (y : Int) % 256 = (z : Int) := by rw [← hz]; simp
          have HST := Lib.hid (takR1 (z := z) hlt HV.out hlet (by decide : 2 = 2 ∨ 2 = 4 ∨ 2 = 6) (by rw [HY.out]; exact hz) hinv.out)
          clear hz
          go_wp2_with fail
          refine (value_calls _ s[i] _ rfl).mono ?_
          rintro en w9 ⟨rfl, rfl⟩
          rw [HVI.out]
          go_wp2_with (at_builtin; refine wpList_app1 (W := w9) rfl _ _ 27 5 (.int .u8 0) 1 rfl Tryd.underlying27 info_u8t rfl (by decide) (fun k => w.heap.size ≤ k) (.slice VA out.length vc) (b8s out) (.int .u8 (z : Int)) rfl rfl rfl HROW.out (fun k hk => Nat.le_trans HKR.out.size hk) (by rw [b8s_length]; omega) ?_; intro v1 w1 hown hkp hob)
          go_roundg (l.length - (i + 1))
          case measure => have := HG.out; omega
          case rel =>
            refine ⟨i + 1, 0, y, out ++ [UInt8.ofNat z], hlt, rfl, by simp, rfl, rfl, .inl rfl, hyb, by simp; omega, ?_, ?_, HKR.out.trans hkp fun b hb => .inr (HROW.out.2 b hb)⟩
            · rw [b8s_append]; have e : b8s [UInt8.ofNat z] = [.int .u8 (z : Int)] := by simp [b8s, B8]; omega
              rw [e]; exact hown
            · have := HST.out; rw [HY.out] at this; exact this
        · obtain ⟨z, hz⟩ : ∃ z, y / 2 ^ 2 % 256 = z := ⟨_, rfl⟩
          have hz8 : z < 256 := by omega
          have hzI : (y : Int) / 4 % 256 = (z : Int) := by rw [← hz]; simp
          have HST := Lib.hid (takR1 (z := z) hlt HV.out hlet (by decide : 4 = 2 ∨ 4 = 4 ∨ 4 = 6) (by rw [HY.out]; exact hz) hinv.out)
          clear hz
          go_wp2_with fail
          refine (value_calls _ s[i] _ rfl).mono ?_
          rintro en w9 ⟨rfl, rfl⟩
          rw [HVI.out]
          go_wp2_with (at_builtin; refine wpList_app1 (W := w9) rfl _ _ 27 5 (.int .u8 0) 1 rfl Tryd.underlying27 info_u8t rfl (by decide) (fun k => w.heap.size ≤ k) (.slice VA out.length vc) (b8s out) (.int .u8 (z : Int)) rfl rfl rfl HROW.out (fun k hk => Nat.le_trans HKR.out.size hk) (by rw [b8s_length]; omega) ?_; intro v1 w1 hown hkp hob)
          go_roundg (l.length - (i + 1))
          case measure => have := HG.out; omega
          case rel =>
            refine ⟨i + 1, 2, y, out ++ [UInt8.ofNat z], hlt, rfl, by simp, rfl, rfl, .inr (.inl rfl), hyb, by simp; omega, ?_, ?_, HKR.out.trans hkp fun b hb => .inr (HROW.out.2 b hb)⟩
            · rw [b8s_append]; have e : b8s [UInt8.ofNat z] = [.int .u8 (z : Int)] := by simp [b8s, B8]; omega
              rw [e]; exact hown
            · have := HST.out; rw [HY.out] at this; exact this
        · obtain ⟨z, hz⟩ : ∃ z, y / 2 ^ 4 % 256 = z := ⟨_, rfl⟩
          have hz8 : z < 256 := by omega
          have hzI : (y : Int) / 16 % 256 = (z : Int) := by rw [← hz]; simp
          have HST := Lib.hid (takR1 (z := z) hlt HV.out hlet (by decide : 6 = 2 ∨ 6 = 4 ∨ 6 = 6) (by rw [HY.out]; exact hz) hinv.out)
          clear hz
          go_wp2_with fail
          refine (value_calls _ s[i] _ rfl).mono ?_
          rintro en w9 ⟨rfl, rfl⟩
          rw [HVI.out]
          go_wp2_with (at_builtin; refine wpList_app1 (W := w9) rfl _ _ 27 5 (.int .u8 0) 1 rfl Tryd.underlying27 info_u8t rfl (by decide) (fun k => w.heap.size ≤ k) (.slice VA out.length vc) (b8s out) (.int .u8 (z : Int)) rfl rfl rfl HROW.out (fun k hk => Nat.le_trans HKR.out.size hk) (by rw [b8s_length]; omega) ?_; intro v1 w1 hown hkp hob)
          go_roundg (l.length - (i + 1))
          case measure => have := HG.out; omega
          case rel =>
            refine ⟨i + 1, 4, y, out ++ [UInt8.ofNat z], hlt, rfl, by simp, rfl, rfl, .inr (.inr (.inl rfl)), hyb, by simp; omega, ?_, ?_, HKR.out.trans hkp fun b hb => .inr (HROW.out.2 b hb)⟩
            · rw [b8s_append]; have e : b8s [UInt8.ofNat z] = [.int .u8 (z : Int)] := by simp [b8s, B8]; omega
              rw [e]; exact hown
            · have := HST.out; rw [HY.out] at this; exact this
      · have hvi : valI s[i] = -1 := by rw [HX.out]; unfold valI; rw [if_neg hlet]
        have HVI := Lib.hid hvi
        have hfo : takeR l = if put64 out = l then some out else none := by
          have h1 := hinv.out
          rw [while_out hlt hlet, List.map_nil, decF, List.append_nil] at h1
          rw [HF.out, h1]
        have HFO := Lib.hid hfo
        clear hvi hlet hfo
        by_cases hp : put64 out = l
        · have HP := Lib.hid hp
          have hps : strB (put64 out) = s := by rw [hp, HS.out]
          have HPS := Lib.hid hps
          clear hp hps
          go_wp2_with fail
          refine (value_calls _ s[i] _ rfl).mono ?_
          rintro en w8 ⟨rfl, rfl⟩
          rw [HVI.out]
          go_wp2_with fail
          refine (refPut_calls _ _ VA out.length vc out HRV.out (by omega) hvc).mono ?_
          rw [HPS.out]
          rintro en w9 ⟨rfl, hk9⟩
          go_wp2_with fail
          go_ret2
          rw [HFO.out, if_pos HP.out]
          exact ⟨_, rfl, HROW.out.kept0 hk9, HKR.out.trans' hk9⟩
        · obtain ⟨s', hs'⟩ : ∃ s', strB (put64 out) = s' := ⟨_, rfl⟩
          have hneq : (s'.toList == s.toList) = false := by
            rw [← hs', ← HS.out, strB_tl, strB_tl]
            exact beq_eq_false_iff_ne.2 hp
          have HP := Lib.hid hp
          have HPS := Lib.hid hs'
          clear hp hs'
          go_wp2_with fail
          refine (value_calls _ s[i] _ rfl).mono ?_
          rintro en w8 ⟨rfl, rfl⟩
          rw [HVI.out]
          go_wp2_with fail
          refine (refPut_calls _ _ VA out.length vc out HRV.out (by omega) hvc).mono ?_
          rw [HPS.out]
          rintro en w9 ⟨rfl, hk9⟩
          go_wp2_with fail
          go_ret2
          rw [HFO.out, if_neg HP.out]
          exact ⟨_, rfl, Row.nil _ _ _, HKR.out.trans' hk9⟩
    · obtain rfl : i = l.length := by omega
      have hfo : takeR l = if put64 out = l then some out else none := by
        have h1 := hinv.out
        rw [List.drop_length, List.takeWhile_nil, List.map_nil, decF, List.append_nil] at h1
        rw [HF.out, h1]
      have HFO := Lib.hid hfo
      have hisI : ((l.length : Int) < (s.size : Int)) = False := by have := HSZ.out; simp; omega
      clear hfo
      by_cases hp : put64 out = l
      · have HP := Lib.hid hp
        have hps : strB (put64 out) = s := by rw [hp, HS.out]
        have HPS := Lib.hid hps
        clear hp hps
        go_wp2_with fail
        refine (refPut_calls _ _ VA out.length vc out HRV.out (by omega) hvc).mono ?_
        rw [HPS.out]
        rintro en w9 ⟨rfl, hk9⟩
        go_wp2_with fail
        go_ret2
        rw [HFO.out, if_pos HP.out]
        exact ⟨_, rfl, HROW.out.kept0 hk9, HKR.out.trans' hk9⟩
      · obtain ⟨s', hs'⟩ : ∃ s', strB (put64 out) = s' := ⟨_, rfl⟩
        have hneq : (s'.toList == s.toList) = false := by
          rw [← hs', ← HS.out, strB_tl, strB_tl]
          exact beq_eq_false_iff_ne.2 hp
        have HP := Lib.hid hp
        have HPS := Lib.hid hs'
        clear hp hs'
        go_wp2_with fail
        refine (refPut_calls _ _ VA out.length vc out HRV.out (by omega) hvc).mono ?_
        rw [HPS.out]
        rintro en w9 ⟨rfl, hk9⟩
        go_wp2_with fail
        go_ret2
        rw [HFO.out, if_neg HP.out]
        exact ⟨_, rfl, Row.nil _ _ _, HKR.out.trans' hk9⟩
end Go.Proofs.YthnebhnlkjkcmaaDoor
