/- TextWords' walk. -/
import Derived.Test.YtakfkccljkilnaaDoorTextHas
import Derived.Test.YtakfkccljkilnaaDoorSame
set_option linter.unusedVariables false
set_option linter.unusedSimpArgs false
namespace Go.Proofs.YtakfkccljkilnaaDoor
open Go.RowKit Go.Shelf

theorem joinB_len : ∀ ws : List (List UInt8), (joinB ws).length ≤ ws.flatten.length + ws.length
  | [] => by simp [joinB]
  | [w] => by simp [joinB]
  | w :: v :: ws => by
    show (w ++ 32 :: joinB (v :: ws)).length ≤ _
    have := joinB_len (v :: ws)
    simp at this ⊢
    omega
theorem joinB_take {ws : List (List UInt8)} {i : Nat} (h : i < ws.length) : joinB (ws.take (i + 1)) = if i = 0 then ws[i] else joinB (ws.take i) ++ 32 :: ws[i] := by
  rw [List.take_succ_eq_append_getElem h]
  split
  · rename_i e
    subst e
    rfl
  · rename_i e
    refine joinB_snoc _ _ fun e2 => e ?_
    have := congrArg List.length e2
    rw [List.length_take, List.length_nil] at this
    omega
theorem flat_take {ws : List (List UInt8)} {i : Nat} (h : i < ws.length) : (ws.take (i + 1)).flatten = (ws.take i).flatten ++ ws[i] := by
  rw [List.take_succ_eq_append_getElem h, List.flatten_append]
  simp
theorem flat_take_len (ws : List (List UInt8)) (i : Nat) : (ws.take i).flatten.length ≤ ws.flatten.length := by
  conv => rhs; rw [← List.take_append_drop i ws, List.flatten_append, List.length_append]
  omega
def notBl (l : List UInt8) : List UInt8 := l.filter fun c => !isBl c
theorem notBl_take {l : List UInt8} {i : Nat} (h : i < l.length) : notBl (l.take (i + 1)) = notBl (l.take i) ++ (if isBl l[i] then [] else [l[i]]) := by
  unfold notBl
  rw [List.take_succ_eq_append_getElem h, List.filter_append]
  congr 1
  cases hb : isBl l[i] <;> simp [hb]
theorem words_num : ∀ (l cur : List UInt8), (wordsG cur l).length ≤ l.length + 1
  | [], cur => by
    rw [wordsG]
    unfold flush
    split <;> simp
  | c :: l, cur => wordsG_len (c :: l) cur

def W1S (w0 : World) (ws : List (List UInt8)) (gk : Nat) (v5 v6 v7 : Value) (wr : World) : Prop :=
  ∃ i, i ≤ ws.length ∧ gk = ws.length - i ∧ v5 = .string (strB (joinB (ws.take i))) ∧ v6 = .string (strB ((ws.take i).flatten)) ∧ v7 = .int .i64 (i : Int) ∧ wr = w0
def W2S (w0 : World) (s : List UInt8) (gk : Nat) (v8 v9 : Value) (wr : World) : Prop :=
  ∃ i, i ≤ s.length ∧ gk = s.length - i ∧ v8 = .string (strB (notBl (s.take i))) ∧ v9 = .int .i64 (i : Int) ∧ wr = w0

set_option maxHeartbeats 8000000 in
set_option maxRecDepth 100000 in
theorem twords_law (w : World) (s0 : List UInt8) (hs : s0.length ≤ 140737488351232) (hm : MaxI w) :
    Calls Tryd.prog 3 #[.string (strB s0)] w fun en w' => en = .returned (.bool true) ∧ Kept w w' NoB := by
  go_enter Tryd.func3, Tryd.ntmps3
  go_wp2_with fail
  refine (shown_calls w hm).mono ?_
  rintro en w1 ⟨rfl, hk1⟩
  have HK1 := Lib.hid hk1
  clear hk1
  go_wp2_with fail
  refine (short_calls w1 s0 hs).mono ?_
  rintro en wx ⟨rfl, rfl⟩
  obtain ⟨s, hse⟩ : ∃ s, s0.take 400 = s := ⟨_, rfl⟩
  have hsl : s.length ≤ 400 := by rw [← hse, List.length_take]; omega
  rw [hse]
  clear hse
  go_wp2_with fail
  refine (words_calls wx s (by omega) (hm.kept0 HK1.out)).mono ?_
  have hflat := words_flat s
  have hfine := words_fine s
  have hnum := words_num s []
  obtain ⟨ws, hws⟩ : ∃ ws, wordsL s = ws := ⟨_, rfl⟩
  have hnum : ws.length ≤ 401 := by rw [← hws]; exact Nat.le_trans hnum (by omega)
  rw [hws] at hflat hfine ⊢
  have hjoin := words_join ws hfine
  have hfl : ws.flatten.length ≤ 400 := by rw [hflat]; exact Nat.le_trans (List.length_filter_le _ _) hsl
  have HFLAT := Lib.hid hflat
  have HFINE := Lib.hid hfine
  have HJOIN := Lib.hid hjoin
  clear hws hflat hfine hjoin
  rintro en w2 ⟨v, rfl, hrow, hk2⟩
  obtain ⟨A, c, rfl, hc, hr⟩ := hrow.readsN (n := ws.length) (strs_length _)
  have HK2 := Lib.hid (HK1.out.trans' hk2)
  have HR := Lib.hid hr
  clear hk2 hrow hr
  go_wp2_with fail
  go_loopg [5, 6, 7] ws.length (fun gk v5 v6 v7 wr => W1S w2 ws gk v5 v6 v7 wr)
  case atStart => exact ⟨0, Nat.zero_le _, rfl, rfl, rfl, rfl, rfl⟩
  case round =>
    obtain ⟨i, hi, hgk, rfl, rfl, rfl, rfl⟩ := hrel
    have HG := Lib.hid hgk
    clear hgk
    rcases Nat.lt_or_ge i ws.length with hlt | hge
    · obtain ⟨ad, u, hA, hu, hcell⟩ := HR.out.at_ hlt
      subst hA
      rw [strs_at ws i hlt] at hu
      injection hu with hu
      subst hu
      have hj := joinB_take hlt
      have hf := flat_take hlt
      have hxe := (HFINE.out ws[i] (List.getElem_mem hlt)).1
      have l1 := joinB_len (ws.take i)
      have l2 := flat_take_len ws i
      have l3 : ws[i].length ≤ 400 := by
        have h := flat_take_len ws (i + 1)
        rw [hf, List.length_append] at h
        omega
      have l4 : (ws.take i).length ≤ i := by rw [List.length_take]; omega
      obtain ⟨x, hx⟩ : ∃ x, ws[i] = x := ⟨_, rfl⟩
      obtain ⟨a, ha⟩ : ∃ a, joinB (ws.take i) = a := ⟨_, rfl⟩
      obtain ⟨b, hb⟩ : ∃ b, (ws.take i).flatten = b := ⟨_, rfl⟩
      obtain ⟨a', ha'⟩ : ∃ a, joinB (ws.take (i + 1)) = a := ⟨_, rfl⟩
      obtain ⟨b', hb'⟩ : ∃ b, (ws.take (i + 1)).flatten = b := ⟨_, rfl⟩
      rw [hx] at hcell hj hf hxe l3
      rw [ha] at l1
      rw [hb] at l1 l2 hf
      rw [ha'] at hj
      rw [hb'] at hf
      have hxn : (x == ([] : List UInt8)) = false := beq_false_of_ne hxe
      have e2 : strB b ++ strB x = strB b' := by rw [hf, strB_app]
      have HA' := Lib.hid ha'
      have HB' := Lib.hid hb'
      simp only [ha, hb]
      have hal : a.length ≤ 900 := by omega
      rcases Nat.eq_zero_or_pos i with h0 | h0
      · subst h0
        rw [if_pos rfl] at hj
        have hae : a = [] := by rw [← ha]; rfl
        have e1 : strB a ++ strB x = strB a' := by rw [hj, hae, strB_app]; rfl
        have t0 : ¬ ((0 : Int) < ((0 : Nat) : Int)) := by decide
        rw [add_zero_] at hcell
        clear ha hb ha' hb' hj hf hae hx hxe
        go_wp2_with fail
        go_roundg (ws.length - (0 + 1))
        case measure => have := HG.out; omega
        case rel => exact ⟨0 + 1, hlt, rfl, by rw [HA'.out], by rw [HB'.out], by go_num, rfl⟩
      · rw [if_neg (by omega), ha] at hj
        have e0 : strB a ++ (⟨#[32]⟩ : ByteArray) = strB (a ++ [32]) := strB_app a [32]
        have e1 : strB (a ++ [32]) ++ strB x = strB a' := by rw [hj, strB_app]; simp
        have t0 : ((0 : Int) < (i : Int)) := by omega
        clear ha hb ha' hb' hj hf hx hxe
        go_wp2_with fail
        go_roundg (ws.length - (i + 1))
        case measure => have := HG.out; omega
        case rel => exact ⟨i + 1, hlt, rfl, by rw [HA'.out], by rw [HB'.out], by go_num, rfl⟩
    · obtain rfl : i = ws.length := by omega
      rw [List.take_length]
      obtain ⟨line, hline⟩ : ∃ a, joinB ws = a := ⟨_, rfl⟩
      obtain ⟨bare, hbare⟩ : ∃ b, ws.flatten = b := ⟨_, rfl⟩
      have l1 := joinB_len ws
      rw [hline, hbare] at l1
      rw [hbare] at hfl
      rw [hline, hbare]
      have HLINE := Lib.hid hline
      have HBARE := Lib.hid hbare
      clear hline hbare
      go_wp2_with fail
      go_loopg [8, 9] s.length (fun gk v8 v9 wr' => W2S wr s gk v8 v9 wr')
      case atStart => exact ⟨0, Nat.zero_le _, rfl, rfl, rfl, rfl⟩
      case round =>
        obtain ⟨k, hk, hgk2, rfl, rfl, rfl⟩ := hrel
        have HG2 := Lib.hid hgk2
        clear hgk2
        rcases Nat.lt_or_ge k s.length with hlt | hge
        · have hnb := notBl_take hlt
          have hnl : (notBl (s.take k)).length ≤ 400 := by
            refine Nat.le_trans (List.length_filter_le _ _) ?_
            rw [List.length_take]
            omega
          obtain ⟨z, hz⟩ : ∃ z, notBl (s.take k) = z := ⟨_, rfl⟩
          rw [hz] at hnb hnl
          simp only [hz]
          obtain ⟨x, hx⟩ : ∃ x : Nat, s[k].toNat = x := ⟨_, rfl⟩
          have hx' : ((strB s)[k]'(by rw [strB_size]; exact hlt)).toNat = x := by rw [strB_getI]; exact hx
          by_cases hbl : isBl s[k] = true
          · rw [if_pos hbl, List.append_nil] at hnb
            have HNB := Lib.hid hnb
            have hor : x = 32 ∨ x = 9 := by
              simp only [isBl, Bool.or_eq_true, beq_iff_eq] at hbl
              rcases hbl with h | h
              · left; rw [← hx, h]; rfl
              · right; rw [← hx, h]; rfl
            clear hnb hz hbl hx
            rcases hor with rfl | rfl
            all_goals
              go_wp2_with fail
              go_roundg (s.length - (k + 1))
              case measure => have := HG2.out; omega
              case rel => exact ⟨k + 1, hlt, rfl, by rw [HNB.out], by go_num, rfl⟩
          · rw [if_neg hbl] at hnb
            have HNB := Lib.hid hnb
            have n32 : ((x : Int) != 32) = true := by
              rw [bne_iff_ne]
              intro e
              apply hbl
              have : s[k] = 32 := UInt8.toNat_inj.1 (by rw [hx]; show x = 32; omega)
              rw [this]; rfl
            have n9 : ((x : Int) != 9) = true := by
              rw [bne_iff_ne]
              intro e
              apply hbl
              have : s[k] = 9 := UInt8.toNat_inj.1 (by rw [hx]; show x = 9; omega)
              rw [this]; rfl
            have hcut := strB_cut s k (k + 1)
            rw [show (s.drop k).take (k + 1 - k) = [s[k]] by rw [List.drop_eq_getElem_cons hlt, show k + 1 - k = 1 by omega]; rfl] at hcut
            have happ := strB_app z [s[k]]
            clear hnb hz hbl hx
            go_wp2_with fail
            go_roundg (s.length - (k + 1))
            case measure => have := HG2.out; omega
            case rel => exact ⟨k + 1, hlt, rfl, by rw [HNB.out], by go_num, rfl⟩
        · obtain rfl : k = s.length := by omega
          rw [List.take_length]
          have hbl : notBl s = bare := by rw [← HBARE.out]; exact HFLAT.out.symm
          rw [hbl]
          have hw := words_calls wr line (by omega) (hm.kept0 HK2.out)
          rw [show wordsL line = ws by rw [← HLINE.out]; exact HJOIN.out] at hw
          go_wp2_with fail
          refine hw.mono ?_
          clear hw hbl
          rintro en w3 ⟨v3, rfl, hrow3, hk3⟩
          obtain ⟨A3, c3, rfl, hc3, hr3⟩ := hrow3.readsN (n := ws.length) (strs_length _)
          have HK3 := Lib.hid (HK2.out.trans' hk3)
          have HR2 := Lib.hid (HR.out.kept0 hk3)
          have HR3 := Lib.hid hr3
          clear hk3 hrow3 hr3
          go_wp2_with fail
          refine (same_calls w3 _ _ A3 A ws.length c3 ws.length c ws ws HR3.out HR2.out (by omega) (by omega)).mono ?_
          rw [decide_eq_true (rfl : ws = ws)]
          rintro en w4 ⟨rfl, hk4⟩
          have HK4 := Lib.hid (HK3.out.trans' hk4)
          clear hk4
          go_wp2_with fail
          go_ret
          exact ⟨rfl, HK4.out⟩

theorem textWords_walk (W : World) (a0 : ByteArray) (w0 : a0.size ≤ 140737488351232) (hsh : W.ShapedOpen Tryd.prog) :
    Calls Tryd.prog 3 #[.string a0] W fun en w' => en = .returned (.bool true) ∧ Below W.heap.size W w' := by
  obtain ⟨s, rfl, hs⟩ := strB_of a0
  exact (twords_law W s (by omega) (MaxI.of_shape hsh)).mono fun _ _ ⟨he, hk⟩ => ⟨he, hk.below⟩
end Go.Proofs.YtakfkccljkilnaaDoor
