/- Texts: numbers, what stands in a text, the head of the laws. -/
import Derived.Test.YtakfkccljkilnaaDoorTextN
set_option linter.unusedVariables false
set_option linter.unusedSimpArgs false
namespace Go.Proofs.YtakfkccljkilnaaDoor
open Go.RowKit Go.Shelf

def digC (c : UInt8) : Bool := decide (48 ≤ c.toNat ∧ c.toNat ≤ 57)
/-- The number of digits that spell v, if there is room. -/
def numV (l : List UInt8) (most v : Int) : Option Int := if 9 < l.length ∨ most < v then none else some v
def numR (r : Option Int) : Value := .tuple #[.int .i64 (r.getD 0), .bool r.isSome]

set_option maxHeartbeats 2000000 in
set_option maxRecDepth 100000 in
theorem number_calls (w : World) (l : List UInt8) (most : Int) (hl : l.length ≤ 1099511627776) (r : Option Int) (hbad : l.all digC = false → r = none) (hok : l.all digC = true → ∃ v, Lib.atoiAll l = .ok v ∧ r = numV l most v) :
    Calls Tryd.prog 14 #[.string (strB l), .int .i64 most] w fun en w' => en = .returned (numR r) ∧ Kept w w' NoB := by
  have HBAD := Lib.hid hbad
  have HOK := Lib.hid hok
  clear hbad hok
  go_enter Tryd.func14, Tryd.ntmps14
  go_wp2_with fail
  go_loopg [7] l.length (fun gk v7 wr => PlS w l digC gk wr)
  case atStart => exact ⟨0, Nat.zero_le _, rfl, rfl, rfl⟩
  case round =>
    obtain ⟨i, hi, hgk, rfl, hall⟩ := hrel
    have HG := Lib.hid hgk
    have HALL := Lib.hid hall
    clear hgk hall
    rcases Nat.lt_or_ge i l.length with hlt | hge
    · have hnx := fun ty => run_next_any (P := Tryd.prog) w (strB l) i ty (by rw [strB_size]; exact hlt)
      obtain ⟨q, d, hrd⟩ : ∃ r d, Utf8.decode (strB l) i = (r, d) := ⟨_, _, rfl⟩
      simp only [hrd] at hnx
      rcases Nat.lt_or_ge l[i].toNat 128 with hasc | hbig
      · have hd := decode_asciiL l i hlt hasc
        rw [hd] at hrd
        injection hrd with h1 h2
        subst h1 h2
        by_cases hc : 48 ≤ l[i].toNat ∧ l[i].toNat ≤ 57
        · have hp : digC l[i] = true := by unfold digC; simpa using hc
          have hall' := all_take hlt HALL.out hp
          have HA := Lib.hid hall'
          obtain ⟨x, hx⟩ : ∃ x, l[i].toNat = x := ⟨_, rfl⟩
          rw [hx] at hnx hc
          have t1 : ¬ ((x : Int) < 48) := by omega
          have t2 : ¬ ((57 : Int) < (x : Int)) := by omega
          clear hall' hp hd hc hx hasc
          go_wp2_with fail
          go_roundg (l.length - (i + 1))
          case measure => have := HG.out; omega
          case rel => exact ⟨i + 1, hlt, rfl, rfl, HA.out⟩
        · have hp : digC l[i] = false := by unfold digC; simpa using hc
          have hres : r = none := HBAD.out (all_miss hlt hp)
          have HR := Lib.hid hres
          obtain ⟨x, hx⟩ : ∃ x, l[i].toNat = x := ⟨_, rfl⟩
          rw [hx] at hnx hc
          clear hp hd hx hasc hres
          rcases Nat.lt_or_ge x 48 with h3 | h3
          · have t1 : ((x : Int) < 48) := by omega
            go_wp2_with fail
            go_ret2
            exact ⟨by rw [HR.out]; rfl, (Kept.refl _ _).iter _ _⟩
          · have t1 : ¬ ((x : Int) < 48) := by omega
            have t2 : ((57 : Int) < (x : Int)) := by omega
            go_wp2_with fail
            go_ret2
            exact ⟨by rw [HR.out]; rfl, (Kept.refl _ _).iter _ _⟩
      · have hb := decode_bigL l i hlt hbig
        rw [hrd] at hb
        have hp : digC l[i] = false := by unfold digC; simp; omega
        have hres : r = none := HBAD.out (all_miss hlt hp)
        have HR := Lib.hid hres
        have hb' : 128 ≤ q := hb
        have t1 : ¬ ((q : Int) < 48) := by omega
        have t2 : ((57 : Int) < (q : Int)) := by omega
        clear hp hres hrd hbig hb
        go_wp2_with fail
        go_ret2
        exact ⟨by rw [HR.out]; rfl, (Kept.refl _ _).iter _ _⟩
    · obtain rfl : i = l.length := by omega
      have hnx := fun ty => run_next_end (P := Tryd.prog) w (strB l) l.length ty (by rw [strB_size]; omega)
      have hres : l.all digC = true := by
        have := HALL.out
        rwa [List.take_length] at this
      obtain ⟨v, hv, hr⟩ := HOK.out hres
      have hb := Lib.atoiAll_bounds hv
      have HV := Lib.hid hv
      have HR := Lib.hid hr
      clear hres hv hr
      go_wp2_with fail
      refine (Any.strconv_Atoi_ok shLaysC172 (strB l) (by rw [strB_size]; omega) v (by rw [strB_toList]; exact HV.out) _).mono ?_
      rintro en w1 ⟨rfl, hw1⟩
      have hk : Kept w w1 NoB := by
        rcases hw1 with rfl | ⟨t, rfl⟩
        · exact (Kept.refl _ _).iter _ _
        · exact ((Kept.refl _ _).iter _ _).bytesW _ _
      have HK := Lib.hid hk
      clear hw1 hk
      by_cases h9 : 9 < l.length
      · have t9 : (9 : Int) < (l.length : Int) := by omega
        go_wp2_with fail
        go_ret2
        exact ⟨by rw [HR.out, numV, if_pos (.inl h9)]; rfl, HK.out⟩
      · have t9 : ¬ ((9 : Int) < (l.length : Int)) := by omega
        by_cases hm : most < v
        · go_wp2_with fail
          go_ret2
          exact ⟨by rw [HR.out, numV, if_pos (.inr hm)]; rfl, HK.out⟩
        · go_wp2_with fail
          go_ret2
          exact ⟨by rw [HR.out, numV, if_neg (by omega)]; rfl, HK.out⟩

theorem short_calls (w : World) (l : List UInt8) (hl : l.length ≤ 140737488351232) :
    Calls Tryd.prog 10 #[.string (strB l)] w fun en w' => en = .returned (.string (strB (l.take 400))) ∧ w' = w := by
  go_enter Tryd.func10, Tryd.ntmps10
  by_cases h : (400 : Int) < (l.length : Int)
  · have he := strB_cut l 0 400
    simp only [List.drop_zero, Nat.sub_zero] at he
    have hz : 400 ≤ l.length := by omega
    go_wp2_with fail
    go_ret
    exact ⟨rfl, rfl⟩
  · have ht : l.take 400 = l := List.take_of_length_le (by omega)
    rw [ht]
    go_wp2_with fail
    go_ret
    exact ⟨rfl, rfl⟩

theorem contains_calls (w : World) (s t : List UInt8) (hs : s.length ≤ 1099511627) (hm : MaxI w) :
    Calls Tryd.prog 28 #[.string (strB s), .string (strB t)] w fun en w' => en = .returned (.bool (Lib.contains s t)) ∧ w' = w := by
  obtain ⟨m, hm⟩ := hm
  refine (Any.strings_Contains shLays144 (strB s) (strB t) m w (by rw [strB_size]; omega) hm).mono fun en w' h => ⟨?_, h.2⟩
  rw [h.1, strB_toList, strB_toList]
theorem hasT_calls (w : World) (s t : List UInt8) (hs : s.length ≤ 1099511627) (ht : t.length ≤ 1099511627) (hm : MaxI w) :
    Calls Tryd.prog 16 #[.string (strB s), .string (strB t)] w fun en w' => en = .returned (.bool (hasTx s t)) ∧ Kept w w' NoB := by
  go_enter Tryd.func16, Tryd.ntmps16
  go_wp2_with fail
  refine (upper_calls w s (by omega)).mono ?_
  rintro en w1 ⟨rfl, hk1⟩
  go_wp2_with fail
  refine (upper_calls w1 t (by omega)).mono ?_
  rintro en w2 ⟨rfl, hk2⟩
  have hk := hk1.trans' hk2
  obtain ⟨b, hb⟩ : ∃ b, hasTx s t = b := ⟨_, rfl⟩
  have HB := Lib.hid hb
  have HK := Lib.hid hk
  clear hb hk1 hk2 hk
  go_wp2_with fail
  refine (contains_calls w2 (upL s) (upL t) (by rw [upL_length]; exact hs) (hm.kept0 HK.out)).mono ?_
  rw [show Lib.contains (upL s) (upL t) = b from HB.out]
  rintro en w3 ⟨rfl, rfl⟩
  go_wp2_with fail
  go_ret
  exact ⟨by rw [HB.out]; rfl, HK.out⟩

def exS : List UInt8 := [32, 97, 32, 32, 98, 99]
set_option maxHeartbeats 1000000 in
set_option maxRecDepth 100000 in
theorem shown_calls (w : World) (hm : MaxI w) : Calls Tryd.prog 9 #[] w fun en w' => en = .returned (.bool true) ∧ Kept w w' NoB := by
  go_enter Tryd.func9, Tryd.ntmps9
  go_wp2_with fail
  have h := words_calls w exS (by decide) hm
  rw [show wordsL exS = [[97], [98, 99]] by decide] at h
  refine h.mono ?_
  clear h
  rintro en w1 ⟨v, rfl, hrow, hk1⟩
  obtain ⟨B, d, rfl, hd, hB⟩ := hrow.readsN (n := 2) rfl
  have HK1 := Lib.hid hk1
  have HB := Lib.hid hB
  clear hk1 hB hrow
  go_wp2_with fail
  refine (number_calls w1 [48, 48, 55] 9 (by decide) (some 7) (by decide) (fun _ => ⟨7, by rfl, by decide⟩)).mono ?_
  rintro en w2 ⟨rfl, hk2⟩
  have HK2 := Lib.hid (HK1.out.trans' hk2)
  have hB2 := HB.out.kept0 hk2
  obtain ⟨ad, u, hA, hu, hc0⟩ := hB2.at_ (k := 0) (by decide)
  obtain ⟨ad', u', hA', hu', hc1⟩ := hB2.at_ (k := 1) (by decide)
  subst hA
  injection hA' with hA'
  subst hA'
  rw [strs_at _ 0 (by decide)] at hu
  rw [strs_at _ 1 (by decide)] at hu'
  injection hu with hu
  injection hu' with hu'
  subst hu hu'
  rw [add_zero_] at hc0
  rw [show ad.add 1 = ⟨ad.block, ad.off + 1, none⟩ from rfl] at hc1
  simp only [List.getElem_cons_zero, List.getElem_cons_succ] at hc0 hc1
  unfold numR
  clear hk2 hB2
  go_wp2_with fail
  go_ret
  exact ⟨rfl, HK2.out⟩
end Go.Proofs.YtakfkccljkilnaaDoor
