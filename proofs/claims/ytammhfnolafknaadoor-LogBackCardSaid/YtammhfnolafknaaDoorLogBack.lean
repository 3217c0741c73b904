/- LogBack's walk. -/
import Derived.Test.YtammhfnolafknaaDoorRd2
import Derived.Test.YtammhfnolafknaaDoorSameE
import Derived.Test.YtammhfnolafknaaDoorLogS
import Derived.Test.YtammhfnolafknaaDoorLogFew
import Derived.Test.YtammhfnolafknaaDoorEnts
import Derived.Test.YtammhfnolafknaaDoorRows
import Derived.Test.YtammhfnolafknaaDoorRowW
import Derived.Lib.LaidTab
import Derived.LaidSub
import Derived.MakeChecks
set_option linter.unusedVariables false
set_option linter.unusedSimpArgs false
namespace Go.Proofs.YtammhfnolafknaaDoor
open Go.RowKit Go.Shelf Go.Lib Go.Sort Go.MakeChecks

theorem PowT.of_back {w : World} (h : laidMetH Tryd.prog Rows.logBackRow.laid w) : PowT w := by
  have h1 := laidMetH.filter (fun x => x.1 == "internal/strconv.uint64pow10") h
  have e : Rows.logBackRow.laid.filter (fun x => x.1 == "internal/strconv.uint64pow10") = [("internal/strconv.uint64pow10", Lib.tabData .u64 Lib.pow10Tab)] := by rfl
  rw [e, laidMetH_plain _ _ _ (by rfl)] at h1
  exact Lib.tabIs_of_head (g := 3) (t := 104) (e := 72) (n := 20) (by kernel_rfl) (by kernel_rfl) Tryd.underlying104 Tryd.underlying72 (by kernel_rfl) (by kernel_rfl) h1
theorem ErrT.of_back {w : World} (h : laidMetH Tryd.prog Rows.logBackRow.laid w) : ErrT w := by
  refine ⟨?_, ?_⟩
  · have h1 := laidMetH.filter (fun x => x.1 == "strconv.ErrSyntax") h
    have e : Rows.logBackRow.laid.filter (fun x => x.1 == "strconv.ErrSyntax") = [("strconv.ErrSyntax", Rows.laid_strconv_ErrSyntax)] := by rfl
    rw [e, laidMetH_plain _ _ _ (by rfl)] at h1
    exact errV_of_head (g := 1) (t := 45) (by kernel_rfl) (by kernel_rfl) Tryd.underlying45 h1
  · have h1 := laidMetH.filter (fun x => x.1 == "strconv.ErrRange") h
    have e : Rows.logBackRow.laid.filter (fun x => x.1 == "strconv.ErrRange") = [("strconv.ErrRange", Rows.laid_strconv_ErrRange)] := by rfl
    rw [e, laidMetH_plain _ _ _ (by rfl)] at h1
    exact errV_of_head (g := 2) (t := 45) (by kernel_rfl) (by kernel_rfl) Tryd.underlying45 h1
theorem showC_print (c : UInt8) : ∀ y ∈ showC c, 32 ≤ y.toNat ∧ y.toNat ≤ 126 := by
  have h8 := c.toNat_lt
  intro y hy
  unfold showC at hy
  split at hy
  · simp only [hex2, List.mem_cons, List.not_mem_nil, or_false] at hy
    rcases hy with rfl | rfl | rfl | rfl
    · decide
    · decide
    · exact (hexC_fine (c.toNat / 16) (by omega)).2.2
    · exact (hexC_fine (c.toNat % 16) (by omega)).2.2
  · rename_i ho
    rw [List.mem_singleton] at hy
    subst hy
    simp only [oddC, decide_eq_true_eq, not_or] at ho
    omega
theorem showL_print (l : List UInt8) : ∀ y ∈ showL l, 32 ≤ y.toNat ∧ y.toNat ≤ 126 := by
  intro y hy
  unfold showL at hy
  obtain ⟨c, _, hc⟩ := List.mem_flatMap.1 hy
  exact showC_print c y hc
theorem textL_more (es : List Ent) : es.length ≤ (textL es).length := by
  induction es with
  | nil => exact Nat.zero_le _
  | cons e es ih =>
    have : textL (e :: es) = rowE e ++ 10 :: textL es := by simp [textL]
    rw [this, List.length_append, List.length_cons, List.length_cons]
    omega
theorem readF_text (es : List Ent) : readF (textL es) = if es.all fineE = true then some es else none := readL_text es _ (textL_more es)
def LbS (w0 : World) (la : List Ent) (n gk : Nat) (v4 v5 : Value) (wr : World) : Prop :=
  ∃ i, i ≤ n ∧ gk = n - i ∧ v5 = .int .i64 (i : Int) ∧ v4 = .bool ((la.take i).all fineE) ∧ Kept w0 wr NoB
def LbI (w0 : World) (m gk : Nat) (v9 : Value) (wr : World) : Prop :=
  ∃ k, k ≤ m ∧ gk = m - k ∧ v9 = .int .i64 (k : Int) ∧ w0 = wr
set_option maxHeartbeats 8000000 in
set_option maxRecDepth 100000 in
theorem back_law (w : World) (A : Option Addr) (n c : Nat) (es : List Ent) (hA : EntR w (fun b => b < w.heap.size) A n es) (hn : n ≤ 9223372036854775807)
    (hwa : ∀ e ∈ es, wfE 9223372036854775807 e) (hp : PowT w) (hm : MaxI w) (he : ErrT w) :
    Calls Tryd.prog 6 #[.slice A n c] w fun en w' => en = .returned (.bool true) ∧ Kept w w' NoB := by
  have HA := Lib.hid hA
  have HWA := Lib.hid hwa
  have HP := Lib.hid hp
  have HM := Lib.hid hm
  have HE := Lib.hid he
  clear hA hwa hp hm he
  go_enter Tryd.func6, Tryd.ntmps6
  go_wp2_with fail
  refine (shown_calls w HP.out).mono ?_
  rintro en w1 ⟨rfl, hk1⟩
  have HK1 := Lib.hid hk1
  clear hk1
  go_wp2_with fail
  refine (few_calls w1 _ A n c es (HA.out.kept0 HK1.out) hn HWA.out).mono ?_
  rintro en w2 ⟨va, rfl, hra, hk2⟩
  have hla := fewL_len es
  have hwa := fewL_wf HWA.out
  obtain ⟨la, hlae⟩ : ∃ l, fewL es = l := ⟨_, rfl⟩
  rw [hlae] at hra hla hwa
  obtain ⟨na, hna⟩ : ∃ n, la.length = n := ⟨_, rfl⟩
  obtain ⟨A1, c1, rfl, hc1, hea⟩ := hra.ent hna
  have HK2 := Lib.hid (HK1.out.trans' hk2)
  have HEA := Lib.hid (hea.mono (T := fun k => k < w2.heap.size) fun k hk _ => hk)
  have HLA := Lib.hid hwa
  have HNA := Lib.hid hna
  have hna30 : na ≤ 30 := by omega
  clear hk2 hra hea hwa hlae hna hla
  go_wp2_with fail
  go_loopg [4, 5] na (fun gk v4 v5 wr => LbS w2 la na gk v4 v5 wr)
  case atStart => exact ⟨0, Nat.zero_le _, rfl, rfl, rfl, Kept.refl _ _⟩
  case round =>
    obtain ⟨i, hi, hgk, rfl, rfl, hk⟩ := hrel
    have HG := Lib.hid hgk
    have HK := Lib.hid hk
    clear hgk hk
    rcases Nat.lt_or_ge i na with hlt | hge
    · have hie : i < la.length := by rw [HNA.out]; exact hlt
      obtain ⟨ad, hAd, k0, k1, k2⟩ := (HEA.out.kept0 HK.out).at_ hlt hie
      subst hAd
      have hwfi := HLA.out la[i] (List.getElem_mem hie)
      have hmore : (la.take (i + 1)).all fineE = ((la.take i).all fineE && fineE la[i]) := by
        rw [List.take_succ_eq_append_getElem hie, List.all_append]
        simp
      obtain ⟨e, hee⟩ : ∃ e, la[i] = e := ⟨_, rfl⟩
      rw [hee] at k0 k1 k2 hwfi hmore
      obtain ⟨at_, kd, tx⟩ := e
      dsimp only at k0 k1 k2
      have htx : tx.length ≤ 100 := hwfi.2.2.2.2
      have hsl := showL_len tx
      have hpr := showL_print tx
      have hmt := meantL_show tx
      obtain ⟨s, hs⟩ : ∃ s, showL tx = s := ⟨_, rfl⟩
      have hsh := fun W => shownL_calls W tx (by omega)
      rw [hs] at hsl hpr hmt
      simp only [hs] at hsh
      have hme := fun W h => meant_calls W s (by omega) h
      simp only [hmt, Option.getD_some, Option.isSome_some] at hme
      have HSH := Lib.hid hsh
      have HME := Lib.hid hme
      have HPR := Lib.hid hpr
      have HMO := Lib.hid hmore
      obtain ⟨fb, hfb⟩ : ∃ b, (la.take i).all fineE = b := ⟨_, rfl⟩
      rw [hfb] at HMO ⊢
      have ti : (i : Int) < (na : Int) := by omega
      clear hwfi hee hs hsh hme hpr hmt hmore hfb
      go_wp2_with fail
      refine (HSH.out _).mono ?_
      rintro en w3 ⟨rfl, hk⟩
      have HK3 := Lib.hid (HK.out.trans' hk)
      have k03 := hk.cell k0 (fun x => x)
      have k13 := hk.cell k1 (fun x => x)
      have k23 := hk.cell k2 (fun x => x)
      clear hk k0 k1 k2
      go_wp2_with fail
      refine (HME.out _ (HM.out.kept0 (HK2.out.trans' HK3.out))).mono ?_
      rintro en w4 ⟨rfl, hk⟩
      have HK4 := Lib.hid (HK3.out.trans' hk)
      have k04 := hk.cell k03 (fun x => x)
      have k14 := hk.cell k13 (fun x => x)
      have k24 := hk.cell k23 (fun x => x)
      clear hk k03 k13 k23
      have q1 : (tx == tx) = true := beq_self_eq_true _
      have q2 : (tx != tx) = false := by rw [bne, q1]; rfl
      obtain ⟨BS, hBS⟩ : ∃ B, strB s = B := ⟨_, rfl⟩
      obtain ⟨m, hmm⟩ : ∃ m, s.length = m := ⟨_, rfl⟩
      have hsz : BS.size = m := by rw [← hBS, strB_size, hmm]
      have hget : ∀ j, (h : j < s.length) → ∀ h' : j < BS.size, (BS[j]'h').toNat = s[j].toNat := fun j h h' => by subst hBS; rw [strB_getI]
      have HGET := Lib.hid hget
      have HMM := Lib.hid hmm
      rw [hBS]
      rw [hmm] at hsl
      clear hBS hget hmm
      go_wp2_with fail
      go_loopg [9] m (fun gk v9 wr => LbI w4 m gk v9 wr)
      case atStart => exact ⟨0, Nat.zero_le _, rfl, rfl, rfl⟩
      case round =>
        obtain ⟨k, hkm, hgk2, rfl, rfl⟩ := hrel
        have HG2 := Lib.hid hgk2
        clear hgk2
        rcases Nat.lt_or_ge k m with hlt2 | hge2
        · have hil : k < s.length := by rw [HMM.out]; exact hlt2
          have y0 : k < BS.size := by rw [hsz]; exact hlt2
          have tk : (k : Int) < (m : Int) := by omega
          have hpp := HPR.out s[k] (List.getElem_mem hil)
          obtain ⟨x, hx⟩ : ∃ x : Nat, s[k].toNat = x := ⟨_, rfl⟩
          have i0 : (BS[k]'y0).toNat = x := (HGET.out k hil y0).trans hx
          rw [hx] at hpp
          have t1 : decide ((x : Int) < 32) = false := by simp; omega
          have t2 : decide ((126 : Int) < (x : Int)) = false := by simp; omega
          have t1' : ¬ (x : Int) < 32 := by omega
          have t2' : ¬ (126 : Int) < (x : Int) := by omega
          clear hx hpp hil
          go_wp2_with fail
          go_roundg (m - (k + 1))
          case measure => have := HG2.out; omega
          case rel => exact ⟨k + 1, hlt2, rfl, by go_num, rfl⟩
        · obtain rfl : k = m := by omega
          have tk : ¬ (k : Int) < (k : Int) := by omega
          clear HG2
          cases fb with
          | false =>
            have HFE : Hid ((false && fineE (at_, kd, tx)) = false) := Lib.hid rfl
            go_wp2_with fail
            go_roundg (na - (i + 1))
            case measure => have := HG.out; omega
            case rel => exact ⟨i + 1, hlt, rfl, by go_num, by first | (rw [HMO.out, HFE.out]; done) | (rw [HMO.out, HFE.out]; rfl), HK4.out⟩
          | true =>
            by_cases h1 : 1 ≤ kd
            · skip
              by_cases h2 : kd ≤ 4
              · skip
                by_cases h3 : 0 ≤ at_
                · skip
                  by_cases h4 : at_ ≤ 999999999
                  · skip
                    have HFE : Hid (fineE (at_, kd, tx) = true) := Lib.hid (by simp [fineE, h1, h2, h3, h4])
                    go_wp2_with fail
                    go_roundg (na - (i + 1))
                    case measure => have := HG.out; omega
                    case rel => exact ⟨i + 1, hlt, rfl, by go_num, by first | (rw [HMO.out, HFE.out]; done) | (rw [HMO.out, HFE.out]; rfl), HK4.out⟩
                  · have dh4 : decide (at_ ≤ 999999999) = false := by simp; omega
                    have HFE : Hid (fineE (at_, kd, tx) = false) := Lib.hid (by unfold fineE; rw [decide_eq_false]; dsimp only; omega)
                    go_wp2_with fail
                    go_roundg (na - (i + 1))
                    case measure => have := HG.out; omega
                    case rel => exact ⟨i + 1, hlt, rfl, by go_num, by first | (rw [HMO.out, HFE.out]; done) | (rw [HMO.out, HFE.out]; rfl), HK4.out⟩
                · have dh3 : decide (0 ≤ at_) = false := by simp; omega
                  have HFE : Hid (fineE (at_, kd, tx) = false) := Lib.hid (by unfold fineE; rw [decide_eq_false]; dsimp only; omega)
                  go_wp2_with fail
                  go_roundg (na - (i + 1))
                  case measure => have := HG.out; omega
                  case rel => exact ⟨i + 1, hlt, rfl, by go_num, by first | (rw [HMO.out, HFE.out]; done) | (rw [HMO.out, HFE.out]; rfl), HK4.out⟩
              · have dh2 : decide (kd ≤ 4) = false := by simp; omega
                have HFE : Hid (fineE (at_, kd, tx) = false) := Lib.hid (by unfold fineE; rw [decide_eq_false]; dsimp only; omega)
                go_wp2_with fail
                go_roundg (na - (i + 1))
                case measure => have := HG.out; omega
                case rel => exact ⟨i + 1, hlt, rfl, by go_num, by first | (rw [HMO.out, HFE.out]; done) | (rw [HMO.out, HFE.out]; rfl), HK4.out⟩
            · have dh1 : decide (1 ≤ kd) = false := by simp; omega
              have HFE : Hid (fineE (at_, kd, tx) = false) := Lib.hid (by unfold fineE; rw [decide_eq_false]; dsimp only; omega)
              go_wp2_with fail
              go_roundg (na - (i + 1))
              case measure => have := HG.out; omega
              case rel => exact ⟨i + 1, hlt, rfl, by go_num, by first | (rw [HMO.out, HFE.out]; done) | (rw [HMO.out, HFE.out]; rfl), HK4.out⟩
    · obtain rfl : i = na := by omega
      have hat : la.take i = la := List.take_of_length_le (by rw [HNA.out]; exact Nat.le_refl _)
      rw [hat]
      have htl := textL_len HLA.out
      rw [HNA.out] at htl
      have htl2 : (textL la).length ≤ 20000 := by
        have : (4 * 100 + 30) * i ≤ (4 * 100 + 30) * 30 := Nat.mul_le_mul_left _ hna30
        omega
      have ti : ¬ (i : Int) < (i : Int) := by omega
      have htx := fun W (hk : Kept w2 W NoB) => text_calls W _ A1 i c1 100 la (HEA.out.kept0 hk) (by omega) (by omega) HLA.out (HP.out.kept0 (HK2.out.trans' hk))
      have hrd := fun W (hk : Kept w2 W NoB) => read_calls W (textL la) htl2 (HM.out.kept0 (HK2.out.trans' hk)) (HE.out.kept0 (HK2.out.trans' hk)) (HP.out.kept0 (HK2.out.trans' hk))
      rw [readF_text] at hrd
      obtain ⟨TX, hTX⟩ : ∃ T, textL la = T := ⟨_, rfl⟩
      simp only [hTX] at htx hrd
      have HTX := Lib.hid htx
      have HRD := Lib.hid hrd
      clear hat htl htl2 htx hrd hTX HG
      by_cases hf : la.all fineE = true
      · rw [if_pos hf] at HRD
        rw [hf]
        clear hf
        go_wp2_with fail
        refine (HTX.out _ HK.out).mono ?_
        rintro en w3 ⟨rfl, hk⟩
        have HK3 := Lib.hid (HK.out.trans' hk)
        clear hk
        go_wp2_with fail
        refine (HRD.out _ HK3.out).mono ?_
        rintro en w4 ⟨hk, v, rfl, hrow⟩
        have HK4 := Lib.hid (HK3.out.trans' hk)
        obtain ⟨A9, c9, rfl, hc9, hent⟩ := hrow.ent HNA.out
        have HEN := Lib.hid hent
        clear hk hrow hent
        go_wp2_with fail
        refine (sameE_calls w4 _ _ A9 A1 i c9 i c1 la la HEN.out (HEA.out.kept0 HK4.out) (by omega) (by omega)).mono ?_
        rw [decide_eq_true (rfl : la = la)]
        rintro en w5 ⟨rfl, hk⟩
        have HK5 := Lib.hid (HK4.out.trans' hk)
        clear hk
        go_wp2_with fail
        go_ret
        exact ⟨rfl, HK2.out.trans' HK5.out⟩
      · rw [if_neg hf] at HRD
        rw [eq_false_of_ne_true hf]
        clear hf
        go_wp2_with fail
        refine (HTX.out _ HK.out).mono ?_
        rintro en w3 ⟨rfl, hk⟩
        have HK3 := Lib.hid (HK.out.trans' hk)
        clear hk
        go_wp2_with fail
        refine (HRD.out _ HK3.out).mono ?_
        rintro en w4 ⟨hk, rfl⟩
        have HK4 := Lib.hid (HK3.out.trans' hk)
        clear hk
        go_wp2_with fail
        refine (sameE_calls w4 NoB _ none A1 0 0 i c1 [] la ⟨rfl, fun h => absurd h (by omega)⟩ (HEA.out.kept0 HK4.out) (by omega) (by omega)).mono ?_
        obtain ⟨bb, hbb⟩ : ∃ b, decide (([] : List Ent) = la) = b := ⟨_, rfl⟩
        rw [hbb]
        rintro en w5 ⟨rfl, hk⟩
        have HK5 := Lib.hid (HK4.out.trans' hk)
        clear hk hbb
        go_wp2_with fail
        go_ret
        exact ⟨rfl, HK2.out.trans' HK5.out⟩
theorem logBack_walk (W : World) (a0 : Option Addr) (len0 cap0 : Nat) (w0 : IsEnts W a0 len0 cap0) (hL : laidMetH Tryd.prog Rows.logBackRow.laid W) (hsh : W.ShapedOpen Tryd.prog) :
    Calls Tryd.prog 6 #[.slice a0 len0 cap0] W fun en w' => en = .returned (.bool true) ∧ Below W.heap.size W w' := by
  obtain ⟨h0, es, hE, hwE⟩ := w0
  exact (back_law W a0 len0 cap0 es hE h0 hwE (PowT.of_back hL) (MaxI.of_shape hsh) (ErrT.of_back hL)).mono fun _ _ ⟨he, hk⟩ => ⟨he, hk.below⟩
end Go.Proofs.YtammhfnolafknaaDoor
