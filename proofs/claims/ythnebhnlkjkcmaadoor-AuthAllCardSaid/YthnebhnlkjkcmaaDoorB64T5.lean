/- Take, the program's. -/
import Derived.Test.YthnebhnlkjkcmaaDoorB64P5
set_option linter.unusedVariables false
set_option linter.unusedSimpArgs false
namespace Go.Proofs.YthnebhnlkjkcmaaDoor
open Go.RowKit

theorem info_u8t : (Tryd.prog.info? 5).map (fun i => (i.zero, i.size, i.bytes)) = some (some (.int .u8 0), 1, 1) := by kernel_rfl
theorem trim_calls (s : ByteArray) (l : List UInt8) (hs : s.data.toList = l) (w : World) (h : s.size ≤ 9223372036854775807) :
    Calls Tryd.prog 22 #[.string s, .string ⟨#[61]⟩] w fun e w' => e = .returned (.string (strB (Lib.trimRightB l 61))) ∧ w' = w := by
  subst hs
  exact Any.strings_TrimRight_one shLays162 s 61 (by decide) w h
theorem index_calls (x : Nat) (b : UInt8) (hx : b.toNat = x) (w : World) :
    Calls Tryd.prog 23 #[.string ⟨#[65, 66, 67, 68, 69, 70, 71, 72, 73, 74, 75, 76, 77, 78, 79, 80, 81, 82, 83, 84, 85, 86, 87, 88, 89, 90, 97, 98, 99, 100, 101, 102, 103, 104, 105, 106, 107, 108, 109, 110, 111, 112, 113, 114, 115, 116, 117, 118, 119, 120, 121, 122, 48, 49, 50, 51, 52, 53, 54, 55, 56, 57, 43, 47]⟩, .int .u8 (x : Int)] w fun e w' => e = .returned (.int .i64 (valI b)) ∧ w' = w := by
  subst hx
  have h := Any.strings_IndexByte shLays137 (strB alphaL) (b.toNat : Int) w
  have e : (strB alphaL).data.toList = alphaL := rfl
  rw [e, show ((b.toNat : Int).toNat.toUInt8) = b by simp, index_val] at h
  exact h
theorem or6 (n v : Nat) (hn : n < 64) (hv : v < 64) : bits .or .u64 ((n : Int) * 64) (v : Int) = ((n * 64 + v : Nat) : Int) := by
  have := bits_or_u64_nat (n * 64) v (by omega) (by omega)
  have e : n * 64 ||| v = n * 64 + v := by
    have := Nat.two_pow_add_eq_or_of_lt (i := 6) (b := v) (by omega) n
    rw [show n * 64 = 2 ^ 6 * n by omega, ← this]
  rw [e] at this
  rw [← this]
  simp
theorem and_low (k y m : Nat) (hm : m = 2 ^ k - 1) (hy : y < 65536) (hk : k ≤ 8) : bits .and .u64 (y : Int) (m : Int) = ((y % 2 ^ k : Nat) : Int) := by
  subst hm
  have hp : (2 : Nat) ^ k ≤ 2 ^ 8 := Nat.pow_le_pow_right (by decide) hk
  have := bits_and_u64_nat y (2 ^ k - 1) (by omega) (by omega)
  rw [Nat.and_two_pow_sub_one_eq_mod] at this
  exact this

/-- The program's state behind i letters. -/
def TakS (w0 : World) (t : List UInt8) (gk : Nat) (v4 v5 v6 v15 : Value) (wr : World) : Prop :=
  ∃ (i b n : Nat) (out : List UInt8), i ≤ t.length ∧ gk = t.length - i ∧ v15 = .int .i64 i ∧ v6 = .int .i64 b ∧ v5 = .int .u64 n ∧ (b = 0 ∧ n = 0 ∨ b = 2 ∧ n < 4 ∨ b = 4 ∧ n < 16 ∨ b = 6 ∧ n < 64) ∧ out.length ≤ i ∧ Row wr 5 (fun k => w0.heap.size ≤ k ∧ k ≠ w0.heap.size + 1) v4 (b8s out) ∧ Reads wr (fun k => k = w0.heap.size + 1) (some ⟨w0.heap.size + 1, 0, none⟩) t.length (b8s t) ∧ Hid ((t.take i).all isL = true ∧ decF 0 0 (t.map val) = out ++ decF b n ((t.drop i).map val)) ∧ Kept w0 wr NoB
theorem TakS.step0 {t out : List UInt8} {i b n : Nat} (hi : i < t.length) (h : (t.take i).all isL = true ∧ decF 0 0 (t.map val) = out ++ decF b n ((t.drop i).map val)) (hv : val t[i] < 64) (hb : ¬ 2 ≤ b) :
    (t.take (i + 1)).all isL = true ∧ decF 0 0 (t.map val) = out ++ decF (b + 6) (n * 64 + val t[i]) ((t.drop (i + 1)).map val) := by
  refine ⟨?_, ?_⟩
  · rw [List.take_succ_eq_append_getElem hi, List.all_append, h.1]
    simp [isL, hv]
  · rw [h.2, List.drop_eq_getElem_cons hi, List.map_cons, decF, if_neg hb]
theorem TakS.step1 {t out : List UInt8} {i b n : Nat} (hi : i < t.length) (h : (t.take i).all isL = true ∧ decF 0 0 (t.map val) = out ++ decF b n ((t.drop i).map val)) (hv : val t[i] < 64) (hb : 2 ≤ b) :
    (t.take (i + 1)).all isL = true ∧ decF 0 0 (t.map val) = (out ++ [UInt8.ofNat ((n * 64 + val t[i]) / 2 ^ (b - 2))]) ++ decF (b - 2) ((n * 64 + val t[i]) % 2 ^ (b - 2)) ((t.drop (i + 1)).map val) := by
  refine ⟨?_, ?_⟩
  · rw [List.take_succ_eq_append_getElem hi, List.all_append, h.1]
    simp [isL, hv]
  · rw [h.2, List.drop_eq_getElem_cons hi, List.map_cons, decF, if_pos hb, List.append_assoc]
    rfl
def TakePost (w0 : World) (r : Option (List UInt8)) (en : Ending) (w' : World) : Prop :=
  ∃ v, en = .returned (.tuple #[v, .bool r.isSome]) ∧ Row w' 5 (fun k => w0.heap.size ≤ k) v (b8s (r.getD [])) ∧ Kept w0 w' NoB

set_option maxHeartbeats 2000000 in
set_option maxRecDepth 100000 in
theorem take_calls (w : World) (l : List UInt8) (s : ByteArray) (hs : strB l = s) (hn : l.length ≤ 1099511627776) :
    Calls Tryd.prog 10 #[.string s] w (TakePost w (takeF l)) := by
  have kb := fun (W : World) (s : ByteArray) => Lib.run_convert_string_bytes (P := Tryd.prog) W 9 27 5 s Tryd.underlying9 Tryd.underlying27 Tryd.underlying5
  have hsl : s.data.toList = l := by rw [← hs, strB_toList]
  have hsz : s.size ≤ 1099511627776 := by rw [← hs, strB_size]; exact hn
  have HS := Lib.hid hs
  have HSL := Lib.hid hsl
  clear hs hsl
  obtain ⟨t, ht⟩ : ∃ t, Lib.trimRightB l 61 = t := ⟨_, rfl⟩
  have htl : t.length ≤ l.length := by
    obtain ⟨k, hk⟩ := trim_parts l
    rw [ht] at hk
    have := congrArg List.length hk
    rw [List.length_append] at this
    omega
  have htf : takeF l = if t.all isL then (if put64 (decF 0 0 (t.map val)) = l then some (decF 0 0 (t.map val)) else none) else none := by
    unfold takeF
    simp only [ht]
  have HT := Lib.hid ht
  have HF := Lib.hid htf
  clear ht htf
  go_enter Tryd.func10, Tryd.ntmps10
  go_wp2_with fail
  refine (trim_calls s l HSL.out _ (by omega)).mono ?_
  rintro en w1 ⟨rfl, rfl⟩
  rw [HT.out]
  go_wp2_with fail
  have hrB : Reads (Lib.bytesWorld (w.alloc (.cells #[] 5)) 5 (strB t)) (fun k => k = w.heap.size + 1) (some ⟨w.heap.size + 1, 0, none⟩) t.length (b8s t) := by
    have := Reads.bytesW (w.alloc (.cells #[] 5)) 5 (strB t)
    rw [strB_size, strB_toList] at this
    simpa using this
  have hKB : Kept (w.alloc (.cells #[] 5)) (Lib.bytesWorld (w.alloc (.cells #[] 5)) 5 (strB t)) NoB := (Kept.refl _ _).bytesW _ _
  go_loopg [4, 5, 6, 15] t.length (fun gk v4 v5 v6 v15 wr => TakS w t gk v4 v5 v6 v15 wr)
  case atStart =>
    exact ⟨0, 0, 0, [], Nat.zero_le _, rfl, rfl, rfl, rfl, .inl ⟨rfl, rfl⟩, by simp, (Row.made0 _ _ _ ⟨Nat.le_refl _, by omega⟩).kept0 hKB, hrB, ⟨by simp, by simp⟩, ((Kept.refl _ _).alloc _).trans' hKB⟩
  case round =>
    obtain ⟨i, b, n, out, hi, hgk, rfl, rfl, rfl, hbn, hol, hrow, hrd, hinv, hkr⟩ := hrel
    have HG := Lib.hid hgk
    have HKR := Lib.hid hkr
    have HRD := Lib.hid hrd
    clear hgk hkr hrB hKB
    rcases Nat.lt_or_ge i t.length with hlt | hge
    · obtain ⟨ad, u, hA, hu, hcell⟩ := HRD.out.at_ hlt
      injection hA with hA
      subst hA
      rw [b8s_at t i hlt, ] at hu
      injection hu with hu
      subst hu
      rw [add_lit0] at hcell
      obtain ⟨x, hx⟩ : ∃ x : Nat, t[i].toNat = x := ⟨_, rfl⟩
      rw [hx] at hcell
      have hx8 : x < 256 := by rw [← hx]; exact t[i].toNat_lt
      have HX := Lib.hid hx
      have hWs : w.heap.size + 1 < wr.heap.size := by
        obtain ⟨ad, h1, h2, h3, _⟩ := HRD.out.2 (by omega)
        rw [h2] at h3
        exact h3
      clear hx hrd
      by_cases hlet : val t[i] < 64
      · obtain ⟨v, hv⟩ : ∃ v, val t[i] = v := ⟨_, rfl⟩
        have hvi : valI t[i] = (v : Int) := by unfold valI; rw [if_pos hlet, hv]
        rw [hv] at hlet
        have hv0 : ¬ ((v : Int) < 0) := by omega
        have HV := Lib.hid hv
        have HVI := Lib.hid hvi
        clear hv hvi
        obtain ⟨VA, vc, hvv, _, _⟩ := hrow.shape
        rw [b8s_length] at hvv
        subst hvv
        have HROW := Lib.hid hrow
        clear hrow
        rcases hbn with ⟨rfl, rfl⟩ | ⟨rfl, hnb⟩ | ⟨rfl, hnb⟩ | ⟨rfl, hnb⟩
        · have HSTEP : Hid _ := TakS.step0 hlt hinv.out (by rw [HV.out]; exact hlet) (by decide)
          go_wp2_with fail
          refine (index_calls x t[i] HX.out _).mono ?_
          rintro en w9 ⟨rfl, rfl⟩
          rw [HVI.out]
          have hor : bits .or .u64 0 (v : Int) = (v : Int) := by simpa using or6 0 v (by decide) hlet
          go_wp2_with fail
          go_roundg (t.length - (i + 1))
          case measure => have := HG.out; omega
          case rel => exact ⟨i + 1, 6, v, out, hlt, rfl, by simp, rfl, rfl, .inr (.inr (.inr ⟨rfl, hlet⟩)), by omega, HROW.out, HRD.out, by have := HSTEP.out; simp only [HV.out, Nat.zero_mul, Nat.zero_add] at this; exact this, HKR.out⟩
        · have hor := or6 n v (by omega) hlet
          obtain ⟨y, hy⟩ : ∃ y, n * 64 + v = y := ⟨_, rfl⟩
          rw [hy] at hor
          have hyb : y < 256 := by omega
          have HSTEP := TakS.step1 hlt hinv.out (by rw [HV.out]; exact hlet) (show 2 ≤ 2 by decide)
          rw [HV.out, hy] at HSTEP
          have HST := Lib.hid HSTEP
          clear HSTEP hy
          have hand : bits .and .u64 (y : Int) 0 = ((y % 1 : Nat) : Int) := and_low 0 y 0 (by decide) (by omega) (by decide)
          obtain ⟨r, hr⟩ : ∃ r, y % 1 = r := ⟨_, rfl⟩
          rw [hr] at hand
          have hrb : r < 1 := by omega
          have HRR := Lib.hid hr
          clear hr
          go_wp2_with fail
          refine (index_calls x t[i] HX.out _).mono ?_
          rintro en w9 ⟨rfl, rfl⟩
          rw [HVI.out]
          go_wp2_with (at_builtin; refine wpList_app1 (W := w9) rfl _ _ 27 5 (.int .u8 0) 1 rfl Tryd.underlying27 info_u8t rfl (by decide) (fun k => w.heap.size ≤ k ∧ k ≠ w.heap.size + 1) (.slice VA out.length vc) (b8s out) (.int .u8 (y : Int)) rfl rfl rfl HROW.out (fun k hk => ⟨by omega, by omega⟩) (by rw [b8s_length]; omega) ?_; intro v1 w1 hown hkp hob)
          go_roundg (t.length - (i + 1))
          case measure => have := HG.out; omega
          case rel =>
            refine ⟨i + 1, 0, r, out ++ [UInt8.ofNat y], hlt, rfl, by simp, rfl, rfl, .inl ⟨rfl, by omega⟩, by simp; omega, ?_, HRD.out.kept hkp ?_, ?_, HKR.out.trans hkp fun b hb => .inr (HROW.out.2 b hb).1⟩
            · rw [b8s_append]; have e : b8s [UInt8.ofNat y] = [.int .u8 (y : Int)] := by simp [b8s, B8]; omega
              rw [e]; exact hown
            · rintro b _ rfl hb; exact (HROW.out.2 _ hb).2 rfl
            · have := HST.out; simp only [Nat.reduceSub, Nat.reducePow, Nat.div_one] at this; rw [HRR.out] at this; exact this
        · have hor := or6 n v (by omega) hlet
          obtain ⟨y, hy⟩ : ∃ y, n * 64 + v = y := ⟨_, rfl⟩
          rw [hy] at hor
          have hyb : y < 1024 := by omega
          have HSTEP := TakS.step1 hlt hinv.out (by rw [HV.out]; exact hlet) (show 2 ≤ 4 by decide)
          rw [HV.out, hy] at HSTEP
          have HST := Lib.hid HSTEP
          clear HSTEP hy
          have hand : bits .and .u64 (y : Int) 3 = ((y % 4 : Nat) : Int) := and_low 2 y 3 (by decide) (by omega) (by decide)
          obtain ⟨r, hr⟩ : ∃ r, y % 4 = r := ⟨_, rfl⟩
          rw [hr] at hand
          have hrb : r < 4 := by omega
          have HRR := Lib.hid hr
          clear hr
          obtain ⟨z, hz⟩ : ∃ z, y / 4 = z := ⟨_, rfl⟩
          have hz8 : z < 256 := by omega
          have hzI : (y : Int) / 4 = (z : Int) := by omega
          have HZ := Lib.hid hz
          clear hz
          go_wp2_with fail
          refine (index_calls x t[i] HX.out _).mono ?_
          rintro en w9 ⟨rfl, rfl⟩
          rw [HVI.out]
          go_wp2_with (at_builtin; refine wpList_app1 (W := w9) rfl _ _ 27 5 (.int .u8 0) 1 rfl Tryd.underlying27 info_u8t rfl (by decide) (fun k => w.heap.size ≤ k ∧ k ≠ w.heap.size + 1) (.slice VA out.length vc) (b8s out) (.int .u8 (z : Int)) rfl rfl rfl HROW.out (fun k hk => ⟨by omega, by omega⟩) (by rw [b8s_length]; omega) ?_; intro v1 w1 hown hkp hob)
          go_roundg (t.length - (i + 1))
          case measure => have := HG.out; omega
          case rel =>
            refine ⟨i + 1, 2, r, out ++ [UInt8.ofNat z], hlt, rfl, by simp, rfl, rfl, .inr (.inl ⟨rfl, by omega⟩), by simp; omega, ?_, HRD.out.kept hkp ?_, ?_, HKR.out.trans hkp fun b hb => .inr (HROW.out.2 b hb).1⟩
            · rw [b8s_append]; have e : b8s [UInt8.ofNat z] = [.int .u8 (z : Int)] := by simp [b8s, B8]; omega
              rw [e]; exact hown
            · rintro b _ rfl hb; exact (HROW.out.2 _ hb).2 rfl
            · have := HST.out; simp only [Nat.reduceSub, Nat.reducePow, Nat.div_one] at this; rw [HZ.out, HRR.out] at this; exact this
        · have hor := or6 n v (by omega) hlet
          obtain ⟨y, hy⟩ : ∃ y, n * 64 + v = y := ⟨_, rfl⟩
          rw [hy] at hor
          have hyb : y < 4096 := by omega
          have HSTEP := TakS.step1 hlt hinv.out (by rw [HV.out]; exact hlet) (show 2 ≤ 6 by decide)
          rw [HV.out, hy] at HSTEP
          have HST := Lib.hid HSTEP
          clear HSTEP hy
          have hand : bits .and .u64 (y : Int) 15 = ((y % 16 : Nat) : Int) := and_low 4 y 15 (by decide) (by omega) (by decide)
          obtain ⟨r, hr⟩ : ∃ r, y % 16 = r := ⟨_, rfl⟩
          rw [hr] at hand
          have hrb : r < 16 := by omega
          have HRR := Lib.hid hr
          clear hr
          obtain ⟨z, hz⟩ : ∃ z, y / 16 = z := ⟨_, rfl⟩
          have hz8 : z < 256 := by omega
          have hzI : (y : Int) / 16 = (z : Int) := by omega
          have HZ := Lib.hid hz
          clear hz
          go_wp2_with fail
          refine (index_calls x t[i] HX.out _).mono ?_
          rintro en w9 ⟨rfl, rfl⟩
          rw [HVI.out]
          go_wp2_with (at_builtin; refine wpList_app1 (W := w9) rfl _ _ 27 5 (.int .u8 0) 1 rfl Tryd.underlying27 info_u8t rfl (by decide) (fun k => w.heap.size ≤ k ∧ k ≠ w.heap.size + 1) (.slice VA out.length vc) (b8s out) (.int .u8 (z : Int)) rfl rfl rfl HROW.out (fun k hk => ⟨by omega, by omega⟩) (by rw [b8s_length]; omega) ?_; intro v1 w1 hown hkp hob)
          go_roundg (t.length - (i + 1))
          case measure => have := HG.out; omega
          case rel =>
            refine ⟨i + 1, 4, r, out ++ [UInt8.ofNat z], hlt, rfl, by simp, rfl, rfl, .inr (.inr (.inl ⟨rfl, by omega⟩)), by simp; omega, ?_, HRD.out.kept hkp ?_, ?_, HKR.out.trans hkp fun b hb => .inr (HROW.out.2 b hb).1⟩
            · rw [b8s_append]; have e : b8s [UInt8.ofNat z] = [.int .u8 (z : Int)] := by simp [b8s, B8]; omega
              rw [e]; exact hown
            · rintro b _ rfl hb; exact (HROW.out.2 _ hb).2 rfl
            · have := HST.out; simp only [Nat.reduceSub, Nat.reducePow, Nat.div_one] at this; rw [HZ.out, HRR.out] at this; exact this
      · have hvi : valI t[i] = -1 := by unfold valI; rw [if_neg hlet]
        have HVI := Lib.hid hvi
        have hna : ¬ t.all isL = true := by
          intro h
          have := List.all_eq_true.1 h t[i] (List.getElem_mem _)
          unfold isL at this
          exact hlet (of_decide_eq_true this)
        have hfn : takeF l = none := by rw [HF.out, if_neg hna]
        have HFN := Lib.hid hfn
        clear hvi hna hfn hlet
        go_wp2_with fail
        refine (index_calls x t[i] HX.out _).mono ?_
        rintro en w9 ⟨rfl, rfl⟩
        rw [HVI.out]
        go_wp2_with fail
        go_ret2
        rw [HFN.out]
        exact ⟨_, rfl, Row.nil _ _ _, HKR.out⟩
    · obtain rfl : i = t.length := by omega
      have hfo : takeF l = if put64 out = l then some out else none := by
        have h1 := hinv.out
        rw [List.take_length] at h1
        rw [List.drop_length, List.map_nil, decF, List.append_nil] at h1
        rw [HF.out, if_pos h1.1, h1.2]
      have HFO := Lib.hid hfo
      obtain ⟨VA, vc, hvv, hvc, hrv⟩ := hrow.readsN (n := out.length) (b8s_length out)
      have HROW := Lib.hid hrow
      have HRV := Lib.hid hrv
      clear hfo hrow hrv hrd
      subst hvv
      by_cases hp : put64 out = l
      · have HP := Lib.hid hp
        have hps : strB (put64 out) = s := by rw [hp, HS.out]
        have HPS := Lib.hid hps
        clear hp hps
        go_wp2_with fail
        refine (put64_any (w1 := wr) HRV.out (by omega) hvc HPS.out).mono ?_
        rintro en w9 ⟨rfl, hk9⟩
        go_wp2_with fail
        go_ret2
        rw [HFO.out, if_pos HP.out]
        exact ⟨_, rfl, (HROW.out.kept0 hk9).mono fun k _ h => h.1, HKR.out.trans' hk9⟩
      · obtain ⟨s', hs'⟩ : ∃ s', strB (put64 out) = s' := ⟨_, rfl⟩
        have hne : s' ≠ s := by
          intro e
          exact hp (strB_inj (by rw [hs', e, HS.out]))
        have hneq : (s'.toList == s.toList) = false := by
          rw [← hs', ← HS.out, strB_tl, strB_tl]
          exact beq_eq_false_iff_ne.2 hp
        have HP := Lib.hid hp
        have HPS := Lib.hid hs'
        clear hp hs'
        go_wp2_with fail
        refine (put64_any (w1 := wr) HRV.out (by omega) hvc HPS.out).mono ?_
        rintro en w9 ⟨rfl, hk9⟩
        go_wp2_with fail
        go_ret2
        rw [HFO.out, if_neg HP.out]
        exact ⟨_, rfl, Row.nil _ _ _, HKR.out.trans' hk9⟩
end Go.Proofs.YthnebhnlkjkcmaaDoor
