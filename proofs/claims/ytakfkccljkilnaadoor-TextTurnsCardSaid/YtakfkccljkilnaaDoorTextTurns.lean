/- TextTurns' walk. -/
import Derived.Test.YtakfkccljkilnaaDoorTextHas
import Derived.BigQuiet
import Derived.Deep.RegionWith
set_option linter.unusedVariables false
set_option linter.unusedSimpArgs false
namespace Go.Proofs.YtakfkccljkilnaaDoor
open Go.RowKit Go.Shelf

theorem isBl_up2 (c : UInt8) : isBl (upC c) = isBl c := by
  unfold upC
  split
  · rename_i h
    have h1 : c ≠ 32 := by rintro rfl; exact absurd h.1 (by decide)
    have h2 : c ≠ 9 := by rintro rfl; exact absurd h.1 (by decide)
    have h3 : (c - 32).toNat = c.toNat - 32 := by
      rw [UInt8.toNat_sub_of_le _ _ (by rw [UInt8.le_iff_toNat_le]; show 32 ≤ _; omega)]
      rfl
    have h4 : c - 32 ≠ 32 := by intro e; have := congrArg UInt8.toNat e; rw [h3] at this; have : c.toNat - 32 = 32 := this; omega
    have h5 : c - 32 ≠ 9 := by intro e; have := congrArg UInt8.toNat e; rw [h3] at this; have : c.toNat - 32 = 9 := this; omega
    unfold isBl
    rw [beq_false_of_ne h1, beq_false_of_ne h2, beq_false_of_ne h4, beq_false_of_ne h5]
  · rfl
theorem flush_up2 (cur : List UInt8) : flush (upL cur) = (flush cur).map upL := by
  unfold flush
  cases cur <;> simp [upL]
theorem wordsG_up2 : ∀ (l cur : List UInt8), wordsG (upL cur) (upL l) = (wordsG cur l).map upL
  | [], cur => by
    show wordsG (upL cur) [] = _
    rw [wordsG, wordsG, flush_up2]
  | c :: l, cur => by
    show wordsG (upL cur) (upC c :: upL l) = _
    rw [wordsG, wordsG, isBl_up2]
    split
    · have := wordsG_up2 l []
      rw [List.map_append, ← flush_up2, ← this]
      rfl
    · have := wordsG_up2 l (cur ++ [c])
      rw [← this, upL_append]
      rfl
theorem words_up2 (l : List UInt8) : wordsL (upL l) = (wordsL l).map upL := wordsG_up2 l []
theorem turns_has (s t : List UInt8) : hasTx (upL s) t = hasTx s t := by unfold hasTx; rw [upL_up2]
theorem turns_mid (s t : List UInt8) : hasTx (s ++ t ++ s) t = true := contains_true (upL_infix ⟨s, s, rfl⟩)
theorem turns_len {s t : List UInt8} (h : ¬ t.length ≤ s.length) : hasTx s t = false := by
  refine contains_false fun e => h ?_
  have := e.length_le
  rwa [upL_length, upL_length] at this
theorem words_pieces : ∀ (l cur : List UInt8), ∀ w ∈ wordsG cur l, w.length ≤ cur.length + l.length
  | [], cur, w, hw => by
    rw [wordsG] at hw
    unfold flush at hw
    split at hw
    · cases hw
    · rw [List.mem_singleton.1 hw]; simp
  | c :: l, cur, w, hw => by
    rw [wordsG] at hw
    split at hw
    · rw [List.mem_append] at hw
      rcases hw with hw | hw
      · unfold flush at hw
        split at hw
        · cases hw
        · rw [List.mem_singleton.1 hw]; simp
      · have := words_pieces l [] w hw
        simp at this ⊢
        omega
    · have := words_pieces l (cur ++ [c]) w hw
      simp at this ⊢
      omega
theorem upL_at (s : List UInt8) (i : Nat) (h : i < s.length) : (upL s)[i]'(by rw [upL_length]; exact h) = upC s[i] := by simp [upL]
theorem upL_at2 {s us : List UInt8} (e : upL s = us) (i : Nat) (h : i < s.length) (h2 : i < us.length) : us[i] = upC s[i] := by
  subst e
  exact upL_at s i h
theorem upC_in2 {c : UInt8} {x : Nat} (h : c.toNat = x) (h1 : 97 ≤ x) (h2 : x ≤ 122) : ((upC c).toNat : Int) = (x : Int) - 32 := upC_in h h1 h2

theorem wordsL_len2 (l : List UInt8) : (wordsL l).length ≤ l.length + 1 := wordsG_len l []

def T1S (w0 : World) (s : List UInt8) (gk : Nat) (v7 : Value) (wr : World) : Prop :=
  ∃ i, i ≤ s.length ∧ gk = s.length - i ∧ v7 = .int .i64 (i : Int) ∧ wr = w0
def T2S (w0 : World) (n gk : Nat) (v11 : Value) (wr : World) : Prop :=
  ∃ i, i ≤ n ∧ gk = n - i ∧ v11 = .int .i64 (i : Int) ∧ Kept w0 wr NoB

set_option maxHeartbeats 8000000 in
set_option maxRecDepth 100000 in
theorem turns_law (w : World) (s0 t0 : List UInt8) (hs : s0.length ≤ 140737488351232) (ht : t0.length ≤ 140737488351232) (hm : MaxI w) :
    Calls Tryd.prog 5 #[.string (strB s0), .string (strB t0)] w fun en w' => en = .returned (.bool true) ∧ Kept w w' NoB := by
  go_enter Tryd.func5, Tryd.ntmps5
  go_wp2_with fail
  refine (shown_calls w hm).mono ?_
  rintro en w1 ⟨rfl, hk1⟩
  have HK1 := Lib.hid hk1
  clear hk1
  go_wp2_with fail
  refine (short_calls w1 s0 hs).mono ?_
  rintro en wx ⟨rfl, rfl⟩
  obtain ⟨s, hse⟩ : ∃ s, s0.take 400 = s := ⟨_, rfl⟩
  have hsl : s.length ≤ 400 := by rw [← hse, List.length_take]; omega
  rw [hse]
  clear hse
  go_wp2_with fail
  refine (short_calls wx t0 ht).mono ?_
  rintro en wy ⟨rfl, rfl⟩
  obtain ⟨t, hte⟩ : ∃ t, t0.take 400 = t := ⟨_, rfl⟩
  have htl : t.length ≤ 400 := by rw [← hte, List.length_take]; omega
  rw [hte]
  clear hte
  go_wp2_with fail
  refine (upper_calls wy s (by omega)).mono ?_
  rintro en w2 ⟨rfl, hk2⟩
  have HK2 := Lib.hid (HK1.out.trans' hk2)
  clear hk2
  have usl := upL_length s
  have hup := words_up2 s
  obtain ⟨us, hus⟩ : ∃ us, upL s = us := ⟨_, rfl⟩
  have hth := turns_has s t
  have hat := upL_at2 hus
  rw [hus] at usl hup hth
  rw [hus]
  have HUS := Lib.hid hus
  have HAT := Lib.hid hat
  have HUP := Lib.hid hup
  have HTH := Lib.hid hth
  clear hus hat hup hth
  have hne : ((us.length : Int) == (s.length : Int)) = true := by rw [usl]; simp
  have hne2 : ((us.length : Int) != (s.length : Int)) = false := by rw [usl]; simp
  go_wp2_with fail
  go_loopg [7, 8] s.length (fun gk v7 v8 wr => T1S w2 s gk v7 wr)
  case atStart => exact ⟨0, Nat.zero_le _, rfl, rfl, rfl⟩
  case round =>
    obtain ⟨i, hi, hgk, rfl, rfl⟩ := hrel
    have HG := Lib.hid hgk
    clear hgk
    rcases Nat.lt_or_ge i s.length with hlt | hge
    · obtain ⟨x, hx⟩ : ∃ x : Nat, s[i].toNat = x := ⟨_, rfl⟩
      have hx8 : x < 256 := by rw [← hx]; exact s[i].toNat_lt
      have hx' : ((strB s)[i]'(by rw [strB_size]; exact hlt)).toNat = x := by rw [strB_getI]; exact hx
      have hu1 : i < us.length := by omega
      have hu2 : (strB us)[i]'(by rw [strB_size]; exact hu1) = upC s[i] := by rw [strB_getI]; exact HAT.out i hlt hu1
      by_cases hc : 97 ≤ x ∧ x ≤ 122
      · have hin := upC_in2 hx hc.1 hc.2
        obtain ⟨y, hy⟩ : ∃ y : Nat, (upC s[i]).toNat = y := ⟨_, rfl⟩
        have hu3 : ((strB us)[i]'(by rw [strB_size]; exact hu1)).toNat = y := by rw [hu2]; exact hy
        rw [hy] at hin
        have t1 : (97 : Int) ≤ (x : Int) := by omega
        have t2 : (x : Int) ≤ 122 := by omega
        have hyx : ((y : Int) == (x : Int) - 32) = true := by rw [hin]; simp
        clear hu2 hy hx hc
        go_wp2_with fail
        go_roundg (s.length - (i + 1))
        case measure => have := HG.out; omega
        case rel => exact ⟨i + 1, hlt, rfl, by go_num, rfl⟩
      · have hu3 : ((strB us)[i]'(by rw [strB_size]; exact hu1)).toNat = x := by rw [hu2, upC_out hx hc]; exact hx
        clear hu2 hx
        rcases Nat.lt_or_ge x 97 with h2 | h2
        · have t1 : ¬ (97 : Int) ≤ (x : Int) := by omega
          go_wp2_with fail
          go_roundg (s.length - (i + 1))
          case measure => have := HG.out; omega
          case rel => exact ⟨i + 1, hlt, rfl, by go_num, rfl⟩
        · have t1 : (97 : Int) ≤ (x : Int) := by omega
          have t2 : ¬ (x : Int) ≤ 122 := by omega
          go_wp2_with fail
          go_roundg (s.length - (i + 1))
          case measure => have := HG.out; omega
          case rel => exact ⟨i + 1, hlt, rfl, by go_num, rfl⟩
    · obtain rfl : i = s.length := by omega
      have hnum := wordsL_len2 s
      have hpc := words_pieces s []
      go_wp2_with fail
      refine (words_calls wr s (by omega) (hm.kept0 HK2.out)).mono ?_
      have hup := HUP.out
      change ∀ w ∈ wordsL s, w.length ≤ 0 + s.length at hpc
      obtain ⟨ws, hws⟩ : ∃ ws, wordsL s = ws := ⟨_, rfl⟩
      rw [hws] at hup hnum hpc ⊢
      have HPC := Lib.hid hpc
      have HW2 := Lib.hid hup
      clear hup hws hpc
      rintro en w3 ⟨va, rfl, hra, hk3⟩
      have HK3 := Lib.hid (HK2.out.trans' hk3)
      go_wp2_with fail
      have hwb := words_calls w3 us (by omega) (hm.kept0 HK3.out)
      rw [HW2.out] at hwb
      refine hwb.mono ?_
      clear hwb
      rintro en w4 ⟨vb, rfl, hrb, hk4⟩
      have HK4 := Lib.hid (HK3.out.trans' hk4)
      obtain ⟨A, c, rfl, hc, hA⟩ := (hra.kept0 hk4).readsN (n := ws.length) (strs_length _)
      obtain ⟨B, d, rfl, hd, hB⟩ := hrb.readsN (n := ws.length) (by rw [strs_length, List.length_map])
      have HA := Lib.hid hA
      have HB := Lib.hid hB
      have hlen2 : ((ws.length : Int) != (ws.length : Int)) = false := by simp
      clear hra hrb hk3 hk4 hA hB
      go_wp2_with fail
      go_loopg [11] ws.length (fun gk v11 wr' => T2S w4 ws.length gk v11 wr')
      case atStart => exact ⟨0, Nat.zero_le _, rfl, rfl, Kept.refl _ _⟩
      case round =>
        obtain ⟨k, hk, hgk2, rfl, hkr⟩ := hrel
        have HG2 := Lib.hid hgk2
        have HKR := Lib.hid hkr
        have HAr := Lib.hid (HA.out.kept0 hkr)
        have HBr := Lib.hid (HB.out.kept0 hkr)
        clear hgk2 hkr
        rcases Nat.lt_or_ge k ws.length with hlt | hge
        · obtain ⟨ad, u, hA1, hu, hcellA⟩ := HAr.out.at_ hlt
          obtain ⟨bd, u', hB1, hu', hcellB⟩ := HBr.out.at_ hlt
          subst hA1 hB1
          rw [strs_at ws k hlt] at hu
          rw [strs_at _ k (by rw [List.length_map]; exact hlt), List.getElem_map] at hu'
          injection hu with hu
          injection hu' with hu'
          subst hu hu'
          have hxl : ws[k].length ≤ 400 := by have := HPC.out ws[k] (List.getElem_mem hlt); omega
          obtain ⟨x, hx⟩ : ∃ x, ws[k] = x := ⟨_, rfl⟩
          rw [hx] at hcellA hcellB hxl
          have t1 : (k : Int) < (ws.length : Int) := by omega
          clear hx
          go_wp2_with fail
          go_region_with (refine (upper_calls _ x (by omega)).mono ?_; rintro en wq ⟨rfl, hkq⟩; have cB := hkq.cell hcellB (fun x => x); have hKQ := HKR.out.drew.trans' hkq)
          all_goals
            go_wp2_with fail
            go_roundg (ws.length - (k + 1))
            case measure => have := HG2.out; omega
            case rel => exact ⟨k + 1, hlt, rfl, by go_num, by assumption⟩
        · obtain rfl : k = ws.length := by omega
          have t1 : ¬ (ws.length : Int) < (ws.length : Int) := by omega
          obtain ⟨h, hh⟩ : ∃ h, hasTx s t = h := ⟨_, rfl⟩
          have hth := HTH.out
          rw [hh] at hth
          have HK5 := Lib.hid (HK4.out.trans' HKR.out)
          have HH := Lib.hid hh
          have HTT := Lib.hid hth
          have hmid := Lib.hid (turns_mid s t)
          have hlen : h = true → t.length ≤ s.length := by
            intro e
            rcases Nat.lt_or_ge s.length t.length with h1 | h1
            · rw [turns_len (by omega)] at hh
              rw [e] at hh
              cases hh
            · exact h1
          have e1 : strB s ++ strB t = strB (s ++ t) := strB_app _ _
          have e2 : strB (s ++ t) ++ strB s = strB (s ++ t ++ s) := strB_app _ _
          clear hh hth
          go_wp2_with fail
          refine (hasT_calls _ s t (by omega) (by omega) (hm.kept0 HK5.out)).mono ?_
          rw [HH.out]
          rintro en w6 ⟨rfl, hk6⟩
          have HK6 := Lib.hid (HK5.out.trans' hk6)
          clear hk6
          go_wp2_with fail
          refine (hasT_calls w6 us t (by omega) (by omega) (hm.kept0 HK6.out)).mono ?_
          rw [HTT.out]
          rintro en w7 ⟨rfl, hk7⟩
          have HK7 := Lib.hid (HK6.out.trans' hk7)
          clear hk7
          go_wp2_with fail
          have hmc := hasT_calls w7 (s ++ t ++ s) t (by simp; omega) (by omega) (hm.kept0 HK7.out)
          rw [hmid.out] at hmc
          simp only [List.append_assoc] at hmc ⊢
          refine hmc.mono ?_
          clear hmc
          rintro en w8 ⟨rfl, hk8⟩
          have HK8 := Lib.hid (HK7.out.trans' hk8)
          clear hk8
          go_wp2_with fail
          refine (hasT_calls w8 s t (by omega) (by omega) (hm.kept0 HK8.out)).mono ?_
          rw [HH.out]
          rintro en w9 ⟨rfl, hk9⟩
          have HK9 := Lib.hid (HK8.out.trans' hk9)
          clear hk9
          cases h
          · go_wp2_with fail
            go_ret
            exact ⟨rfl, HK9.out⟩
          · have hle := hlen rfl
            have hleI : (t.length : Int) ≤ (s.length : Int) := by omega
            go_wp2_with fail
            go_ret
            exact ⟨rfl, HK9.out⟩

theorem textTurns_walk (W : World) (a0 a1 : ByteArray) (w0 : a0.size ≤ 140737488351232) (w1 : a1.size ≤ 140737488351232) (hsh : W.ShapedOpen Tryd.prog) :
    Calls Tryd.prog 5 #[.string a0, .string a1] W fun en w' => en = .returned (.bool true) ∧ Below W.heap.size W w' := by
  obtain ⟨s, rfl, hs⟩ := strB_of a0
  obtain ⟨t, rfl, ht⟩ := strB_of a1
  exact (turns_law W s t (by omega) (by omega) (MaxI.of_shape hsh)).mono fun _ _ ⟨he, hk⟩ => ⟨he, hk.below⟩
end Go.Proofs.YtakfkccljkilnaaDoor
