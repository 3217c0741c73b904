/- VarsMany's walk. -/
import Derived.Test.YtcggpedebcamdaaDoorVarS
import Derived.Test.YtcggpedebcamdaaDoorDig
import Derived.Test.YtcggpedebcamdaaDoorRowW
set_option linter.unusedVariables false
set_option linter.unusedSimpArgs false
namespace Go.Proofs.YtcggpedebcamdaaDoor
open Go.RowKit Go.Shelf Go.Lib

def dig2 (n : Nat) : List UInt8 := if n < 10 then [UInt8.ofNat (48 + n)] else [UInt8.ofNat (48 + n / 10), UInt8.ofNat (48 + n % 10)]
theorem itoa_dig2 {n : Nat} (h : n < 31) : itoa (n : Int) = dig2 n := by
  unfold itoa dig2
  rw [if_neg (by omega), Int.toNat_natCast]
  split
  · next h1 => rw [decDigits_one h1]
  · next h1 => rw [decDigits_two h1 (by omega)]
def kx (i : Nat) : List UInt8 := 120 :: dig2 i
def vx (i : Nat) : List UInt8 := 118 :: dig2 i
def oth : List UInt8 := [111, 116, 104, 101, 114]
def manyL (n : Nat) : VarL := (List.range (min n 16)).map fun j => (kx j, vx j)
theorem many_set : ∀ i : Fin 31, setL (manyL i.val) (kx i.val) (vx i.val) = (if i.val < 16 then 0 else 72, manyL (i.val + 1)) := by decide +kernel
theorem many_find : ∀ n i : Fin 31, findV (manyL n.val) (kx i.val) = if i.val < min n.val 16 then some (vx i.val) else none := by decide +kernel
theorem kx_inj : ∀ i j : Fin 31, kx i.val = kx j.val → i = j := by decide +kernel
theorem many_other (n k : Nat) (hn : n < 31) (hk : k < min n 16) : setL (manyL n) (kx k) oth = (0, putV (manyL n) (kx k) oth) := by
  have h := many_find ⟨n, hn⟩ ⟨k, by omega⟩
  simp only at h
  unfold setL
  rw [if_neg (by decide), if_neg]
  rintro ⟨h1, _⟩
  rw [h1, if_pos hk] at h
  cases h
theorem other_find (n k i : Nat) (hn : n < 31) (hk : k < min n 16) (hi : i < 31) : findV (putV (manyL n) (kx k) oth) (kx i) = if i = k then some oth else if i < min n 16 then some (vx i) else none := by
  rw [find_put]
  by_cases h : i = k
  · rw [if_pos (by rw [h]), if_pos h]
  · rw [if_neg (fun e => h (by have := kx_inj ⟨k, by omega⟩ ⟨i, hi⟩ e; simpa using (congrArg Fin.val this).symm)), if_neg h]
    exact many_find ⟨n, hn⟩ ⟨i, hi⟩
theorem other_len (n k : Nat) (hn : n < 31) (hk : k < min n 16) : (putV (manyL n) (kx k) oth).length = min n 16 := by
  rw [put_len, if_neg]
  · simp [manyL]
  · have h := many_find ⟨n, hn⟩ ⟨k, by omega⟩
    simp only at h
    rw [h, if_pos hk]
    simp
def MnyS (w0 : World) (n p r gk : Nat) (v8 : Value) (wr : World) : Prop :=
  ∃ i, i ≤ n ∧ gk = n - i ∧ v8 = .int .i64 (i : Int) ∧ VarsR wr p r (manyL i) ∧ Kept w0 wr NoB
def MnyT (w0 : World) (n gk : Nat) (v12 : Value) (wr : World) : Prop := ∃ i, i ≤ n ∧ gk = n - i ∧ v12 = .int .i64 (i : Int) ∧ wr = w0
set_option maxHeartbeats 4000000 in
set_option maxRecDepth 100000 in
theorem many_law (w : World) (mn ag : Nat) (h1 : mn < 256) (h2 : ag < 256) (hm : MaxI w) :
    Calls Tryd.prog 4 #[.int .u8 (mn : Int), .int .u8 (ag : Int)] w fun en w' => en = .returned (.bool true) ∧ Kept w w' NoB := by
  have hn31 : mn % 31 < 31 := Nat.mod_lt _ (by omega)
  obtain ⟨n, hn⟩ : ∃ n, mn % 31 = n := ⟨_, rfl⟩
  rw [hn] at hn31
  have hne : (mn : Int).tmod 31 = (n : Int) := by rw [Int.tmod_eq_emod_of_nonneg (by omega)]; omega
  have hne2 : (mn : Int) % 31 = (n : Int) := by omega
  clear hn
  go_enter Tryd.func4, Tryd.ntmps4
  go_wp2_with fail
  refine (shown_calls w hm).mono ?_
  rintro en w1 ⟨rfl, hk1⟩
  have HK1 := Lib.hid hk1
  clear hk1
  go_wp2_with fail
  refine (new_calls w1).mono ?_
  rintro en w2 ⟨rfl, h2', hk2⟩
  have H2 := Lib.hid h2'
  have HK2 := Lib.hid (HK1.out.trans' hk2)
  have hz2 := HK1.out.size
  clear h2' hk2
  go_wp2_with fail
  go_loopg [8] n (fun gk v8 wr => MnyS w n (w1.heap.size + 1) w1.heap.size gk v8 wr)
  case atStart => exact ⟨0, Nat.zero_le _, rfl, rfl, H2.out, HK2.out⟩
  case round =>
    obtain ⟨i, hi, hgk, rfl, hv, hkr⟩ := hrel
    have HG := Lib.hid hgk
    have HV := Lib.hid hv
    have HKR := Lib.hid hkr
    clear hgk hv hkr hne hne2
    rcases Nat.lt_or_ge i n with hlt | hge
    · have hd := itoa_dig2 (n := i) (by omega)
      have hset := many_set ⟨i, by omega⟩
      simp only at hset
      have HSET := Lib.hid hset
      have HD := Lib.hid hd
      have a1 : (⟨#[120]⟩ : ByteArray) ++ strB (itoa (i : Int)) = strB (kx i) := by rw [hd]; exact strB_app [120] (dig2 i)
      have a2 : (⟨#[118]⟩ : ByteArray) ++ strB (itoa (i : Int)) = strB (vx i) := by rw [hd]; exact strB_app [118] (dig2 i)
      have hsz : (itoa (i : Int)).length ≤ 2 := by rw [hd]; unfold dig2; split <;> simp
      clear hset hd
      go_wp2_with fail
      refine (refDigits_calls wr (i : Int) (by omega) (by omega)).mono ?_
      rintro en w3 ⟨rfl, rfl⟩
      go_wp2_with fail
      refine (refDigits_calls w3 (i : Int) (by omega) (by omega)).mono ?_
      rintro en w4 ⟨rfl, rfl⟩
      go_wp2_with fail
      refine (set_at w4 _ _ _ (kx i) (vx i) _ _ HV.out rfl rfl _ HSET.out).mono ?_
      rintro en w5 ⟨rfl, h5, hk5, hs5⟩
      have H5 := Lib.hid h5
      have HK5 := Lib.hid (HKR.out.trans hk5 fun b hb => .inr (by omega))
      clear h5 hk5 hs5 a1 a2
      by_cases h16 : i < 16
      · have t1 : (i : Int) < 16 := by omega
        have t2 : decide ((i : Int) < 16) = true := decide_eq_true t1
        simp only [if_pos h16]
        go_wp2_with fail
        go_roundg (n - (i + 1))
        case measure => have := HG.out; omega
        case rel => exact ⟨i + 1, hlt, rfl, by go_num, H5.out, HK5.out⟩
      · have t1 : ¬ (i : Int) < 16 := by omega
        have t2 : decide ((i : Int) < 16) = false := decide_eq_false t1
        simp only [if_neg h16]
        go_wp2_with fail
        go_roundg (n - (i + 1))
        case measure => have := HG.out; omega
        case rel => exact ⟨i + 1, hlt, rfl, by go_num, H5.out, HK5.out⟩
    · obtain rfl : i = n := by omega
      by_cases h0 : i = 0
      · subst h0
        go_wp2_with fail
        refine (len_calls wr _ _ _ HV.out).mono ?_
        rintro en w3 ⟨rfl, rfl⟩
        go_wp2_with fail
        go_ret
        exact ⟨rfl, HKR.out⟩
      · have hpos : 0 < min i 16 := by omega
        obtain ⟨M, hM⟩ : ∃ M, min i 16 = M := ⟨_, rfl⟩
        rw [hM] at hpos
        have hmin : min (i : Int) 16 = (M : Int) := by omega
        obtain ⟨k, hk⟩ : ∃ k, ag % M = k := ⟨_, rfl⟩
        have hkM : k < M := by rw [← hk]; exact Nat.mod_lt _ hpos
        have htm : (ag : Int).tmod (M : Int) = (k : Int) := by rw [Int.tmod_eq_emod_of_nonneg (by omega), ← hk]; omega
        have htm2 : (ag : Int) % (M : Int) = (k : Int) := by rw [← hk]; omega
        have hM0 : ((M : Int) == 0) = false := by rw [beq_eq_false_iff_ne]; omega
        have hM1 : ¬ (M : Int) = 0 := by omega
        have hi0 : ((i : Int) == 0) = false := by rw [beq_eq_false_iff_ne]; omega
        have hset := many_other i k hn31 (by omega)
        have hd := itoa_dig2 (n := k) (by omega)
        have a1 : (⟨#[120]⟩ : ByteArray) ++ strB (itoa (k : Int)) = strB (kx k) := by rw [hd]; exact strB_app [120] (dig2 k)
        have hsz : (itoa (k : Int)).length ≤ 2 := by rw [hd]; unfold dig2; split <;> simp
        have HSET := Lib.hid hset
        have HM := Lib.hid hM
        clear hset hd hM hk
        go_wp2_with fail
        refine (refDigits_calls wr (k : Int) (by omega) (by omega)).mono ?_
        rintro en w3 ⟨rfl, rfl⟩
        go_wp2_with fail
        refine (set_at w3 _ _ _ (kx k) oth _ _ HV.out rfl rfl _ HSET.out).mono ?_
        rintro en w4 ⟨rfl, h4, hk4, hs4⟩
        have H4 := Lib.hid h4
        have HK4 := Lib.hid (HKR.out.trans hk4 fun b hb => .inr (by omega))
        clear h4 hk4 hs4 a1
        go_wp2_with fail
        go_loopg [12] i (fun gk v12 wr => MnyT w4 i gk v12 wr)
        case atStart => exact ⟨0, Nat.zero_le _, rfl, rfl, rfl⟩
        case round =>
          obtain ⟨j, hj, hgk, rfl, rfl⟩ := hrel
          have HG2 := Lib.hid hgk
          clear hgk
          rcases Nat.lt_or_ge j i with hlt | hge
          · have hd := itoa_dig2 (n := j) (by omega)
            have a1 : (⟨#[120]⟩ : ByteArray) ++ strB (itoa (j : Int)) = strB (kx j) := by rw [hd]; exact strB_app [120] (dig2 j)
            have a2 : (⟨#[118]⟩ : ByteArray) ++ strB (itoa (j : Int)) = strB (vx j) := by rw [hd]; exact strB_app [118] (dig2 j)
            have hsz : (itoa (j : Int)).length ≤ 2 := by rw [hd]; unfold dig2; split <;> simp
            have hf := other_find i k j hn31 (by have := HM.out; omega) (by omega)
            rw [HM.out] at hf
            have HF := Lib.hid hf
            clear hd hf
            go_wp2_with fail
            refine (refDigits_calls wr (j : Int) (by omega) (by omega)).mono ?_
            rintro en w5 ⟨rfl, rfl⟩
            go_wp2_with fail
            have b1 : (strB oth == (⟨#[111, 116, 104, 101, 114]⟩ : ByteArray)) = true := eqB oth oth _ rfl rfl
            have b2 : (strB (vx j) == strB (vx j)) = true := (Go.MapKept.bytes_beq _ _).2 rfl
            by_cases hjk : j = k
            · have hres : findV (putV (manyL i) (kx k) oth) (kx j) = some oth := by rw [HF.out, if_pos hjk]
              have HRES := Lib.hid hres
              have t0 : ((j : Int) == (k : Int)) = true := by rw [beq_iff_eq]; omega
              have t1 : (j : Int) < 16 := by have := HM.out; omega
              have t2 : decide ((j : Int) < 16) = true := decide_eq_true t1
              clear hres hjk
              refine (get_at w5 _ _ _ (kx j) _ H4.out rfl _ HRES.out).mono ?_
              rintro en w6 ⟨rfl, rfl⟩
              simp only [Option.getD_some, Option.isSome_some]
              go_wp2_with fail
              refine (refDigits_calls w6 (j : Int) (by omega) (by omega)).mono ?_
              rintro en w7 ⟨rfl, rfl⟩
              go_wp2_with fail
              go_roundg (i - (j + 1))
              case measure => have := HG2.out; omega
              case rel => exact ⟨j + 1, hlt, rfl, by go_num, rfl⟩
            · have t0 : ((j : Int) == (k : Int)) = false := by rw [beq_eq_false_iff_ne]; omega
              by_cases h16 : j < 16
              · have hres : findV (putV (manyL i) (kx k) oth) (kx j) = some (vx j) := by rw [HF.out, if_neg hjk, if_pos (by have := HM.out; omega)]
                have HRES := Lib.hid hres
                have t1 : (j : Int) < 16 := by omega
                have t2 : decide ((j : Int) < 16) = true := decide_eq_true t1
                clear hres hjk
                refine (get_at w5 _ _ _ (kx j) _ H4.out rfl _ HRES.out).mono ?_
                rintro en w6 ⟨rfl, rfl⟩
                simp only [Option.getD_some, Option.isSome_some]
                go_wp2_with fail
                refine (refDigits_calls w6 (j : Int) (by omega) (by omega)).mono ?_
                rintro en w7 ⟨rfl, rfl⟩
                go_wp2_with fail
                go_roundg (i - (j + 1))
                case measure => have := HG2.out; omega
                case rel => exact ⟨j + 1, hlt, rfl, by go_num, rfl⟩
              · have hres : findV (putV (manyL i) (kx k) oth) (kx j) = none := by rw [HF.out, if_neg hjk, if_neg (by have := HM.out; omega)]
                have HRES := Lib.hid hres
                have t1 : ¬ (j : Int) < 16 := by omega
                have t2 : decide ((j : Int) < 16) = false := decide_eq_false t1
                clear hres hjk
                refine (get_at w5 _ _ _ (kx j) _ H4.out rfl _ HRES.out).mono ?_
                rintro en w6 ⟨rfl, rfl⟩
                simp only [Option.getD_none, Option.isSome_none]
                go_wp2_with fail
                refine (refDigits_calls w6 (j : Int) (by omega) (by omega)).mono ?_
                rintro en w7 ⟨rfl, rfl⟩
                go_wp2_with fail
                go_roundg (i - (j + 1))
                case measure => have := HG2.out; omega
                case rel => exact ⟨j + 1, hlt, rfl, by go_num, rfl⟩
          · obtain rfl : j = i := by omega
            have hl := other_len j k hn31 (by have := HM.out; omega)
            rw [HM.out] at hl
            have hlen := len_calls wr _ _ _ H4.out
            rw [hl] at hlen
            have HL := Lib.hid hlen
            clear hl hlen
            go_wp2_with fail
            refine HL.out.mono ?_
            rintro en w5 ⟨rfl, rfl⟩
            go_wp2_with fail
            go_ret
            exact ⟨rfl, HK4.out⟩
theorem varsMany_walk (W : World) (a0 a1 : Int) (w0 : (Lit.int .u8 a0).wf = true) (w1 : (Lit.int .u8 a1).wf = true) (hsh : W.ShapedOpen Tryd.prog) :
    Calls Tryd.prog 4 #[.int .u8 a0, .int .u8 a1] W fun en w' => en = .returned (.bool true) ∧ Below W.heap.size W w' := by
  have hx : ∀ a : Int, (Lit.int .u8 a).wf = true → ∃ x : Nat, a = (x : Int) ∧ x < 256 := fun a h => by
    simp only [Lit.wf, Bool.and_eq_true, decide_eq_true_eq] at h
    have e0 : IntKind.u8.min = 0 := rfl
    have e1 : IntKind.u8.max = 255 := rfl
    exact ⟨a.toNat, by omega, by omega⟩
  obtain ⟨x, rfl, hx1⟩ := hx a0 w0
  obtain ⟨y, rfl, hy1⟩ := hx a1 w1
  exact (many_law W x y hx1 hy1 (MaxI.of_shape hsh)).mono fun _ _ ⟨he, hk⟩ => ⟨he, hk.below⟩
end Go.Proofs.YtcggpedebcamdaaDoor
