/- TextNumbers' walk. -/
import Derived.Test.YtakfkccljkilnaaDoorTextD
import Derived.Test.YtakfkccljkilnaaDoorShI
import Derived.Test.YtakfkccljkilnaaDoorRows
import Derived.Test.YtakfkccljkilnaaDoorRowW
import Derived.Lib.LaidTab
import Derived.LaidSub
import Derived.MakeChecks
set_option linter.unusedVariables false
set_option linter.unusedSimpArgs false
namespace Go.Proofs.YtakfkccljkilnaaDoor
open Go.RowKit Go.Shelf Go.Lib Go.MakeChecks Go.Sort

def PowT (w : World) : Prop := Lib.TabIs Tryd.prog w "internal/strconv.uint64pow10" .u64 Lib.pow10Tab
theorem PowT.kept0 {w w' : World} (h : PowT w) (k : Kept w w' NoB) : PowT w' := by
  unfold PowT Lib.TabIs World.var? at h ⊢
  have hg : Tryd.prog.globalNamed "internal/strconv.uint64pow10" = some 5 := by kernel_rfl
  rw [hg, Option.bind_some] at h ⊢
  cases hh : w.heap[5]? with
  | none => rw [hh] at h; cases h
  | some o =>
    rw [hh] at h
    rw [k.heap hh fun x => x]
    exact h
theorem PowT.of_laid {w : World} (h : laidMetH Tryd.prog Rows.textNumbersRow.laid w) : PowT w := by
  have h1 := laidMetH.filter (fun x => x.1 == "internal/strconv.uint64pow10") h
  have e : Rows.textNumbersRow.laid.filter (fun x => x.1 == "internal/strconv.uint64pow10") = [("internal/strconv.uint64pow10", Lib.tabData .u64 Lib.pow10Tab)] := by rfl
  rw [e, laidMetH_plain _ _ _ (by rfl)] at h1
  exact Lib.tabIs_of_head (g := 5) (t := 89) (e := 46) (n := 20) (by kernel_rfl) (by kernel_rfl) Tryd.underlying89 Tryd.underlying46 (by kernel_rfl) (by kernel_rfl) h1
theorem digits_calls (w : World) (n : Int) (h0 : -9223372036854775808 ≤ n) (h1 : n ≤ 9223372036854775807) (hp : PowT w) :
    Calls Tryd.prog 13 #[.int .i64 n] w fun en w' => en = .returned (.string (strB (itoa n))) ∧ Kept w w' NoB := by
  go_enter Tryd.func13, Tryd.ntmps13
  go_wp2_with fail
  refine (Any.strconv_Itoa shLaysM171 n h0 h1 w hp).mono ?_
  rintro en w1 ⟨rfl, k, os, rfl⟩
  have hk : Kept w (grow (w.drewN k) os) NoB := ⟨rfl, rfl, rfl, by simp [grow, World.drewN], fun i hi _ => by
    have : i < (w.drewN k).heap.size := hi
    show ((w.drewN k).heap ++ os)[i]? = _
    rw [Array.getElem?_append_left this]
    rfl⟩
  have HK := Lib.hid hk
  clear hk
  generalize grow (w.drewN k) os = w1 at HK ⊢
  go_wp2_with fail
  go_ret
  exact ⟨rfl, HK.out⟩
theorem and7 : ∀ x < 256, bits .and .u8 ((x : Nat) : Int) 7 = ((x % 8 : Nat) : Int) := by decide +kernel
theorem strB_app2 (l m : List UInt8) : strB l ++ strB m = strB (l ++ m) := by
  apply ByteArray.ext
  simp [strB]
def ZS (w0 : World) (l : List UInt8) (k gk : Nat) (v12 v13 : Value) (wr : World) : Prop :=
  ∃ i, i ≤ k ∧ gk = k - i ∧ v12 = .string (strB (List.replicate i 48 ++ l)) ∧ v13 = .int .i64 (i : Int) ∧ wr = w0

set_option maxHeartbeats 8000000 in
set_option maxRecDepth 100000 in
theorem num_law (w : World) (n most : Int) (x : Nat) (h0 : -9223372036854775808 ≤ n) (h1 : n ≤ 9223372036854775807) (hx : x < 256) (hm : MaxI w) (hp : PowT w) :
    Calls Tryd.prog 4 #[.int .i64 n, .int .i64 most, .int .u8 x] w fun en w' => en = .returned (.bool true) ∧ Kept w w' NoB := by
  have h7 := and7 x hx
  obtain ⟨k, hk⟩ : ∃ k, x % 8 = k := ⟨_, rfl⟩
  have hk7 : k ≤ 7 := by omega
  rw [hk] at h7
  have hlen := itoa_length_le n h0 h1
  clear hk
  go_enter Tryd.func4, Tryd.ntmps4
  go_wp2_with fail
  refine (shown_calls w hm).mono ?_
  rintro en w1 ⟨rfl, hk1⟩
  have HK1 := Lib.hid hk1
  clear hk1
  go_wp2_with fail
  refine (digits_calls w1 n h0 h1 (hp.kept0 HK1.out)).mono ?_
  rintro en w2 ⟨rfl, hk2⟩
  have HK2 := Lib.hid (HK1.out.trans' hk2)
  clear hk2
  by_cases hneg : n < 0
  · have hl : itoa n = 45 :: decDigits n.natAbs := by unfold itoa; rw [if_pos hneg]
    have hbad : (itoa n).all digC = false := by rw [hl]; exact all_minus 0 _
    have hbad2 : ∀ k, (List.replicate k (48 : UInt8) ++ itoa n).all digC = false := fun k => by rw [hl]; exact all_minus k _
    have hne : itoa n ≠ [] := by rw [hl]; simp
    have hc0 : ∀ h : 0 < (itoa n).length, ((itoa n)[0]'h).toNat = 45 := fun h => by
      have e : (itoa n)[0]'h = 45 := by simp only [hl, List.getElem_cons_zero]
      rw [e]
      rfl
    obtain ⟨l, hll⟩ : ∃ l, itoa n = l := ⟨_, rfl⟩
    rw [hll] at hbad hne hlen hc0
    simp only [hll] at hbad2
    rw [hll]
    obtain ⟨c0, hcc⟩ : ∃ c : Nat, c = 45 := ⟨_, rfl⟩
    have hc0 : ∀ h : 0 < l.length, (l[0]'h).toNat = c0 := fun h => by rw [hcc]; exact hc0 h
    have BAD := Lib.hid hbad
    have BAD2 := Lib.hid hbad2
    have c45 : ((c0 : Int) == 45) = true := by rw [hcc]; rfl
    have tneg : ¬ (0 : Int) ≤ n := by omega
    clear hl hll hbad hbad2 hcc
    have H48 := Lib.hid (strB_app2 [48])
    have hl0 : 0 < l.length := by cases l with
      | nil => exact absurd rfl hne
      | cons a r => simp
    have hl0I : (0 : Int) < (l.length : Int) := by omega
    have hc0' : ((strB l)[0]'(by rw [strB_size]; exact hl0)).toNat = c0 := by rw [strB_getI]; exact hc0 hl0
    clear hc0
    go_wp2_with fail
    refine (number_calls w2 l most (by omega) (none) (fun _ => rfl) (fun h => by rw [BAD.out] at h; cases h)).mono ?_
    rintro en w3 ⟨rfl, hk3⟩
    have HK3 := Lib.hid (HK2.out.trans' hk3)
    clear hk3
    simp only [numR, Option.getD_some, Option.getD_none, Option.isSome_some, Option.isSome_none]
    go_wp2_with fail
    go_loopg [12, 13] k (fun gk v12 v13 wr => ZS w3 l k gk v12 v13 wr)
    case atStart => exact ⟨0, Nat.zero_le _, rfl, rfl, rfl, rfl⟩
    case round =>
      obtain ⟨i, hi, hgk, rfl, rfl, rfl⟩ := hrel
      have HG := Lib.hid hgk
      clear hgk
      rcases Nat.lt_or_ge i k with hlt | hge
      · have e48 : (⟨#[48]⟩ : ByteArray) ++ strB (List.replicate i 48 ++ l) = strB (List.replicate (i + 1) 48 ++ l) := by
          rw [List.replicate_succ, List.cons_append]
          exact H48.out (List.replicate i 48 ++ l)
        have hzl : (List.replicate i (48 : UInt8) ++ l).length = i + l.length := by simp
        have tk : (i : Int) < (k : Int) := by omega
        obtain ⟨z, hz⟩ : ∃ z, List.replicate i (48 : UInt8) ++ l = z := ⟨_, rfl⟩
        rw [hz] at e48 hzl
        rw [hz]
        clear hz
        go_wp2_with fail
        go_roundg (k - (i + 1))
        case measure => have := HG.out; omega
        case rel => exact ⟨i + 1, hlt, rfl, rfl, by go_num, rfl⟩
      · obtain rfl : i = k := by omega
        have tk : ¬ (i : Int) < (i : Int) := by omega
        have hzl : (List.replicate i (48 : UInt8) ++ l).length = i + l.length := by simp
        obtain ⟨z, hz⟩ : ∃ z, List.replicate i (48 : UInt8) ++ l = z := ⟨_, rfl⟩
        have hcall := number_calls wr (List.replicate i 48 ++ l) most (by omega) (none) (fun _ => rfl) (fun h => by rw [BAD2.out] at h; cases h)
        rw [hz] at hcall hzl
        rw [hz]
        clear hz
        go_wp2_with fail
        refine hcall.mono ?_
        clear hcall
        rintro en w4 ⟨rfl, hk4⟩
        have HK4 := Lib.hid (HK3.out.trans' hk4)
        clear hk4
        simp only [numR, Option.getD_some, Option.getD_none, Option.isSome_some, Option.isSome_none]
        go_wp2_with fail
        go_ret
        exact ⟨rfl, HK4.out⟩
  · obtain ⟨u, rfl⟩ := Int.eq_ofNat_of_zero_le (show 0 ≤ n by omega)
    have hl : itoa (u : Int) = decDigits u := itoa_nonneg u
    have hat := atoi_zeros 0 u (by omega)
    have hat2 := fun k => atoi_zeros k u (by omega)
    have hdl : (decDigits u).length = nDigits u := decDigits_length u
    have hn9 := nDigits_nine u
    have hne : decDigits u ≠ [] := dec_ne u
    have hcx : ∀ h : 0 < (decDigits u).length, 48 ≤ ((decDigits u)[0]'h).toNat ∧ ((decDigits u)[0]'h).toNat ≤ 57 := fun h => by
      have := dec_digs u u (Nat.le_refl _) _ (List.getElem_mem h)
      unfold digC at this
      simpa using this
    have hall2 := fun k => all_zeros k u
    rw [hl] at hlen
    rw [hl]
    obtain ⟨l, hll⟩ : ∃ l, decDigits u = l := ⟨_, rfl⟩
    simp only [hll] at hat hat2 hdl hne hcx hlen hall2
    rw [hll]
    rw [← hdl] at hn9
    have hl1 : 0 < l.length := by cases l with
      | nil => exact absurd rfl hne
      | cons a r => simp
    obtain ⟨c0, hc0⟩ : ∃ c : Nat, (l[0]'hl1).toNat = c := ⟨_, rfl⟩
    have hcc : 48 ≤ c0 ∧ c0 ≤ 57 := by rw [← hc0]; exact hcx hl1
    have hc0 : ∀ h : 0 < l.length, (l[0]'h).toNat = c0 := fun h => hc0
    have ALL := Lib.hid (hall2 0)
    have ALL2 := Lib.hid hall2
    have AT := Lib.hid hat
    have AT2 := Lib.hid hat2
    have N9 := Lib.hid hn9
    have c45 : ((c0 : Int) == 45) = false := by rw [beq_eq_false_iff_ne]; omega
    have tpos : (0 : Int) ≤ (u : Int) := by omega
    have tneg : ¬ (u : Int) < 0 := by omega
    clear hl hll hat hat2 hdl hn9 hcx hall2 hcc
    by_cases hbig : 1000000000 ≤ u
    · have hl9 : 9 < l.length := by have := N9.out; omega
      have tb : decide ((u : Int) < 1000000000) = false := decide_eq_false (by omega)
      clear hbig
      have H48 := Lib.hid (strB_app2 [48])
      have hl0 : 0 < l.length := by cases l with
        | nil => exact absurd rfl hne
        | cons a r => simp
      have hl0I : (0 : Int) < (l.length : Int) := by omega
      have hc0' : ((strB l)[0]'(by rw [strB_size]; exact hl0)).toNat = c0 := by rw [strB_getI]; exact hc0 hl0
      clear hc0
      go_wp2_with fail
      refine (number_calls w2 l most (by omega) (none) (fun _ => rfl) (fun _ => ⟨u, by have := AT.out; simpa using this, by rw [numV, if_pos (.inl hl9)]⟩)).mono ?_
      rintro en w3 ⟨rfl, hk3⟩
      have HK3 := Lib.hid (HK2.out.trans' hk3)
      clear hk3
      simp only [numR, Option.getD_some, Option.getD_none, Option.isSome_some, Option.isSome_none]
      go_wp2_with fail
      go_loopg [12, 13] k (fun gk v12 v13 wr => ZS w3 l k gk v12 v13 wr)
      case atStart => exact ⟨0, Nat.zero_le _, rfl, rfl, rfl, rfl⟩
      case round =>
        obtain ⟨i, hi, hgk, rfl, rfl, rfl⟩ := hrel
        have HG := Lib.hid hgk
        clear hgk
        rcases Nat.lt_or_ge i k with hlt | hge
        · have e48 : (⟨#[48]⟩ : ByteArray) ++ strB (List.replicate i 48 ++ l) = strB (List.replicate (i + 1) 48 ++ l) := by
            rw [List.replicate_succ, List.cons_append]
            exact H48.out (List.replicate i 48 ++ l)
          have hzl : (List.replicate i (48 : UInt8) ++ l).length = i + l.length := by simp
          have tk : (i : Int) < (k : Int) := by omega
          obtain ⟨z, hz⟩ : ∃ z, List.replicate i (48 : UInt8) ++ l = z := ⟨_, rfl⟩
          rw [hz] at e48 hzl
          rw [hz]
          clear hz
          go_wp2_with fail
          go_roundg (k - (i + 1))
          case measure => have := HG.out; omega
          case rel => exact ⟨i + 1, hlt, rfl, rfl, by go_num, rfl⟩
        · obtain rfl : i = k := by omega
          have tk : ¬ (i : Int) < (i : Int) := by omega
          have hzl : (List.replicate i (48 : UInt8) ++ l).length = i + l.length := by simp
          have t9 : ¬ ((i : Int) + (l.length : Int) ≤ 9) := by omega
          obtain ⟨z, hz⟩ : ∃ z, List.replicate i (48 : UInt8) ++ l = z := ⟨_, rfl⟩
          have hcall := number_calls wr (List.replicate i 48 ++ l) most (by omega) (none) (fun _ => rfl) (fun _ => ⟨u, AT2.out _, by rw [numV, if_pos (.inl (by omega))]⟩)
          rw [hz] at hcall hzl
          rw [hz]
          clear hz
          go_wp2_with fail
          refine hcall.mono ?_
          clear hcall
          rintro en w4 ⟨rfl, hk4⟩
          have HK4 := Lib.hid (HK3.out.trans' hk4)
          clear hk4
          simp only [numR, Option.getD_some, Option.getD_none, Option.isSome_some, Option.isSome_none]
          go_wp2_with fail
          go_ret
          exact ⟨rfl, HK4.out⟩
    · have tb : (u : Int) < 1000000000 := by omega
      have hl9 : l.length ≤ 9 := by have := N9.out; omega
      by_cases hmo : most < (u : Int)
      · have tmo : decide ((u : Int) ≤ most) = false := decide_eq_false (by omega)
        have H48 := Lib.hid (strB_app2 [48])
        have hl0 : 0 < l.length := by cases l with
          | nil => exact absurd rfl hne
          | cons a r => simp
        have hl0I : (0 : Int) < (l.length : Int) := by omega
        have hc0' : ((strB l)[0]'(by rw [strB_size]; exact hl0)).toNat = c0 := by rw [strB_getI]; exact hc0 hl0
        clear hc0
        go_wp2_with fail
        refine (number_calls w2 l most (by omega) (none) (fun _ => rfl) (fun _ => ⟨u, by have := AT.out; simpa using this, by rw [numV, if_pos (.inr hmo)]⟩)).mono ?_
        rintro en w3 ⟨rfl, hk3⟩
        have HK3 := Lib.hid (HK2.out.trans' hk3)
        clear hk3
        simp only [numR, Option.getD_some, Option.getD_none, Option.isSome_some, Option.isSome_none]
        go_wp2_with fail
        go_loopg [12, 13] k (fun gk v12 v13 wr => ZS w3 l k gk v12 v13 wr)
        case atStart => exact ⟨0, Nat.zero_le _, rfl, rfl, rfl, rfl⟩
        case round =>
          obtain ⟨i, hi, hgk, rfl, rfl, rfl⟩ := hrel
          have HG := Lib.hid hgk
          clear hgk
          rcases Nat.lt_or_ge i k with hlt | hge
          · have e48 : (⟨#[48]⟩ : ByteArray) ++ strB (List.replicate i 48 ++ l) = strB (List.replicate (i + 1) 48 ++ l) := by
              rw [List.replicate_succ, List.cons_append]
              exact H48.out (List.replicate i 48 ++ l)
            have hzl : (List.replicate i (48 : UInt8) ++ l).length = i + l.length := by simp
            have tk : (i : Int) < (k : Int) := by omega
            obtain ⟨z, hz⟩ : ∃ z, List.replicate i (48 : UInt8) ++ l = z := ⟨_, rfl⟩
            rw [hz] at e48 hzl
            rw [hz]
            clear hz
            go_wp2_with fail
            go_roundg (k - (i + 1))
            case measure => have := HG.out; omega
            case rel => exact ⟨i + 1, hlt, rfl, rfl, by go_num, rfl⟩
          · obtain rfl : i = k := by omega
            have tk : ¬ (i : Int) < (i : Int) := by omega
            have hzl : (List.replicate i (48 : UInt8) ++ l).length = i + l.length := by simp
            obtain ⟨z, hz⟩ : ∃ z, List.replicate i (48 : UInt8) ++ l = z := ⟨_, rfl⟩
            have hcall := number_calls wr (List.replicate i 48 ++ l) most (by omega) (none) (fun _ => rfl) (fun _ => ⟨u, AT2.out _, by rw [numV, if_pos (.inr hmo)]⟩)
            rw [hz] at hcall hzl
            rw [hz]
            clear hz
            go_wp2_with fail
            refine hcall.mono ?_
            clear hcall
            rintro en w4 ⟨rfl, hk4⟩
            have HK4 := Lib.hid (HK3.out.trans' hk4)
            clear hk4
            simp only [numR, Option.getD_some, Option.getD_none, Option.isSome_some, Option.isSome_none]
            go_wp2_with fail
            go_ret
            exact ⟨rfl, HK4.out⟩
      · have tmo : (u : Int) ≤ most := by omega
        have hmo2 : ¬ most < (u : Int) := by omega
        have H48 := Lib.hid (strB_app2 [48])
        have hl0 : 0 < l.length := by cases l with
          | nil => exact absurd rfl hne
          | cons a r => simp
        have hl0I : (0 : Int) < (l.length : Int) := by omega
        have hc0' : ((strB l)[0]'(by rw [strB_size]; exact hl0)).toNat = c0 := by rw [strB_getI]; exact hc0 hl0
        clear hc0
        go_wp2_with fail
        refine (number_calls w2 l most (by omega) (some (u : Int)) (fun h => by have := ALL.out; simp only [List.replicate_zero, List.nil_append] at this; rw [this] at h; cases h) (fun _ => ⟨u, by have := AT.out; simpa using this, by rw [numV, if_neg (by omega)]⟩)).mono ?_
        rintro en w3 ⟨rfl, hk3⟩
        have HK3 := Lib.hid (HK2.out.trans' hk3)
        clear hk3
        simp only [numR, Option.getD_some, Option.getD_none, Option.isSome_some, Option.isSome_none]
        go_wp2_with fail
        go_loopg [12, 13] k (fun gk v12 v13 wr => ZS w3 l k gk v12 v13 wr)
        case atStart => exact ⟨0, Nat.zero_le _, rfl, rfl, rfl, rfl⟩
        case round =>
          obtain ⟨i, hi, hgk, rfl, rfl, rfl⟩ := hrel
          have HG := Lib.hid hgk
          clear hgk
          rcases Nat.lt_or_ge i k with hlt | hge
          · have e48 : (⟨#[48]⟩ : ByteArray) ++ strB (List.replicate i 48 ++ l) = strB (List.replicate (i + 1) 48 ++ l) := by
              rw [List.replicate_succ, List.cons_append]
              exact H48.out (List.replicate i 48 ++ l)
            have hzl : (List.replicate i (48 : UInt8) ++ l).length = i + l.length := by simp
            have tk : (i : Int) < (k : Int) := by omega
            obtain ⟨z, hz⟩ : ∃ z, List.replicate i (48 : UInt8) ++ l = z := ⟨_, rfl⟩
            rw [hz] at e48 hzl
            rw [hz]
            clear hz
            go_wp2_with fail
            go_roundg (k - (i + 1))
            case measure => have := HG.out; omega
            case rel => exact ⟨i + 1, hlt, rfl, rfl, by go_num, rfl⟩
          · obtain rfl : i = k := by omega
            have tk : ¬ (i : Int) < (i : Int) := by omega
            have hzl : (List.replicate i (48 : UInt8) ++ l).length = i + l.length := by simp
            by_cases h99 : i + l.length ≤ 9
            · have t9 : ((i : Int) + (l.length : Int) ≤ 9) := by omega
              obtain ⟨z, hz⟩ : ∃ z, List.replicate i (48 : UInt8) ++ l = z := ⟨_, rfl⟩
              have hcall := number_calls wr (List.replicate i 48 ++ l) most (by omega) (some (u : Int)) (fun h => by rw [ALL2.out] at h; cases h) (fun _ => ⟨u, AT2.out _, by rw [numV, if_neg (by omega)]⟩)
              rw [hz] at hcall hzl
              rw [hz]
              clear hz
              go_wp2_with fail
              refine hcall.mono ?_
              clear hcall
              rintro en w4 ⟨rfl, hk4⟩
              have HK4 := Lib.hid (HK3.out.trans' hk4)
              clear hk4
              simp only [numR, Option.getD_some, Option.getD_none, Option.isSome_some, Option.isSome_none]
              go_wp2_with fail
              go_ret
              exact ⟨rfl, HK4.out⟩
            · have t9 : decide ((i : Int) + (l.length : Int) ≤ 9) = false := decide_eq_false (by omega)
              obtain ⟨z, hz⟩ : ∃ z, List.replicate i (48 : UInt8) ++ l = z := ⟨_, rfl⟩
              have hcall := number_calls wr (List.replicate i 48 ++ l) most (by omega) (none) (fun _ => rfl) (fun _ => ⟨u, AT2.out _, by rw [numV, if_pos (.inl (by omega))]⟩)
              rw [hz] at hcall hzl
              rw [hz]
              clear hz
              go_wp2_with fail
              refine hcall.mono ?_
              clear hcall
              rintro en w4 ⟨rfl, hk4⟩
              have HK4 := Lib.hid (HK3.out.trans' hk4)
              clear hk4
              simp only [numR, Option.getD_some, Option.getD_none, Option.isSome_some, Option.isSome_none]
              go_wp2_with fail
              go_ret
              exact ⟨rfl, HK4.out⟩

theorem textNumbers_walk (W : World) (a0 a1 a2 : Int) (w0 : (Lit.int .i64 a0).wf = true) (w1 : (Lit.int .i64 a1).wf = true) (w2 : (Lit.int .u8 a2).wf = true) (hL : laidMetH Tryd.prog Rows.textNumbersRow.laid W) (hsh : W.ShapedOpen Tryd.prog) :
    Calls Tryd.prog 4 #[.int .i64 a0, .int .i64 a1, .int .u8 a2] W fun en w' => en = .returned (.bool true) ∧ Below W.heap.size W w' := by
  simp only [Lit.wf, Bool.and_eq_true, decide_eq_true_eq] at w0 w2
  have h1 : -9223372036854775808 ≤ a0 ∧ a0 ≤ 9223372036854775807 := w0
  have h2 : 0 ≤ a2 ∧ a2 ≤ 255 := w2
  obtain ⟨m2, rfl⟩ := Int.eq_ofNat_of_zero_le h2.1
  exact (num_law W a0 a1 m2 h1.1 h1.2 (by omega) (MaxI.of_shape hsh) (PowT.of_laid hL)).mono fun _ _ ⟨he, hk⟩ => ⟨he, hk.below⟩
end Go.Proofs.YtakfkccljkilnaaDoor
