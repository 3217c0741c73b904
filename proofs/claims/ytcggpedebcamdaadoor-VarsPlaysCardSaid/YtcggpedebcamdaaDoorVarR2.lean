/- Variables: the reference's Parts: what it computes. (Printed by gen_varr2.py.) -/
import Derived.Test.YtcggpedebcamdaaDoorVarR
set_option linter.unusedVariables false
set_option linter.unusedSimpArgs false
namespace Go.Proofs.YtcggpedebcamdaaDoor
open Go.RowKit Go.Shelf Go.Lib

theorem pmap (o : Option (List Part)) (a b : List Part) : (o.map (b ++ ·)).map (a ++ ·) = o.map ((a ++ b) ++ ·) := by
  cases o <;> simp
theorem nameN_endQ {r : List UInt8} {n : Nat} {c : UInt8} (hn : (nameN r).length = n) (hc : r[n]? = some c) : letC (decide (n = 0)) c = false := by
  subst hn
  obtain ⟨h1, h2⟩ := List.getElem?_eq_some_iff.1 hc
  rw [← h2]
  exact nameN_end r h1
def PtS (w0 : World) (t : List UInt8) (gk : Nat) (v4 v5 : Value) (wr : World) : Prop :=
  ∃ (at_ : Nat) (d : List Part), at_ ≤ t.length ∧ gk = t.length - at_ ∧ v5 = .int .i64 (at_ : Int) ∧ RowP wr (fun k => w0.heap.size ≤ k) v4 d ∧ Kept w0 wr NoB ∧ partsL t = (partsL (t.drop at_)).map (d ++ ·) ∧ d.length ≤ at_
def PtI (w1 : World) (at_ n : Nat) (gk : Nat) (v6 : Value) (wr : World) : Prop := ∃ E : Nat, at_ + 1 ≤ E ∧ E ≤ at_ + 1 + n ∧ gk = at_ + 1 + n - E ∧ v6 = .int .i64 (E : Int) ∧ wr = w1
set_option maxHeartbeats 8000000 in
set_option maxRecDepth 100000 in
theorem refParts_calls (w : World) (t : List UInt8) (hl : t.length ≤ 1000000) (pl : Option (List Part)) (hpl : partsL t = pl) :
    Calls Tryd.prog 30 #[.string (strB t)] w fun en w' => ∃ v, en = .returned (.tuple #[v, .bool pl.isSome]) ∧ RowP w' (fun k => w.heap.size ≤ k) v (pl.getD []) ∧ Kept w w' NoB := by
  have HPL := Lib.hid hpl
  clear hpl
  go_enter Tryd.func30, Tryd.ntmps30
  go_wp2_with fail
  go_loopg [4, 5] t.length (fun gk v4 v5 wr => PtS w t gk v4 v5 wr)
  case atStart => exact ⟨0, [], Nat.zero_le _, rfl, rfl, RowP.made0 _ _ (Nat.le_refl _), (Kept.refl _ _).alloc _, by simp, Nat.le_refl _⟩
  case round =>
    obtain ⟨at_, d, hat, hgk, rfl, hrow, hkr, hp, hdl⟩ := hrel
    have HG := Lib.hid hgk
    have HROW := Lib.hid hrow
    have HKR := Lib.hid hkr
    have HP := Lib.hid hp
    have hws := hkr.size
    obtain ⟨A4, c4, rfl⟩ := hrow.slice
    clear hgk hrow hkr hp
    rcases Nat.lt_or_ge at_ t.length with hlt | hge
    · have hbi : at_ < (strB t).size := by rw [strB_size]; exact hlt
      have hbi2 : at_ + 1 ≤ (strB t).size := by rw [strB_size]; omega
      have hg := strB_getI t at_ hbi
      have hdc := List.drop_eq_getElem_cons hlt
      have he := strB_cut t at_ (at_ + 1)
      rw [show at_ + 1 - at_ = 1 by omega, take_one hlt] at he
      obtain ⟨c, hc⟩ : ∃ c, t[at_]'hlt = c := ⟨_, rfl⟩
      have hg' : (strB t)[at_] = c := hg.trans hc
      simp only [hc] at he hdc
      obtain ⟨r, hr⟩ : ∃ r, t.drop (at_ + 1) = r := ⟨_, rfl⟩
      rw [hr] at hdc
      have hrl : r.length = t.length - (at_ + 1) := by rw [← hr, List.length_drop]
      by_cases h36 : c = 36
      · subst h36
        have hx : ((strB t)[at_]'(by rw [strB_size]; exact hlt)).toNat = 36 := by rw [hg']; rfl
        have hps : partsL t = (partsM .s r).map (d ++ ·) := by rw [HP.out, hdc, partsL_dollar]
        have HPS := Lib.hid hps
        have hnl := nameN_len r
        obtain ⟨n, hn⟩ : ∃ n, (nameN r).length = n := ⟨_, rfl⟩
        have HN := Lib.hid hn
        rw [hn] at hnl
        have HR := Lib.hid hr
        clear hg hg' hdc he hc hps hn hr HP
        go_wp2_with fail
        go_loopg [6] n (fun gk v6 wr' => PtI wr at_ n gk v6 wr')
        case atStart => exact ⟨at_ + 1, Nat.le_refl _, by omega, by omega, by first | rfl | go_num, rfl⟩
        case round =>
          obtain ⟨E, hE1, hE2, hgk2, rfl, rfl⟩ := hrel
          have HG2 := Lib.hid hgk2
          clear hgk2
          obtain ⟨b, hb⟩ : ∃ b, ((E : Int) == (at_ : Int) + 1) = b := ⟨_, rfl⟩
          have hbk : decide (E - (at_ + 1) = 0) = b := by
            rw [← hb]
            by_cases h : E = at_ + 1
            · rw [decide_eq_true (by omega)]
              exact (beq_iff_eq.2 (by omega)).symm
            · rw [decide_eq_false (by omega)]
              exact (beq_eq_false_iff_ne.2 (by omega)).symm
          rcases Nat.lt_or_ge E t.length with hEl | hEl
          · have hbE : E < (strB t).size := by rw [strB_size]; exact hEl
            have hgE := strB_getI t E hbE
            have hrE : r[E - (at_ + 1)]'(by omega) = t[E]'hEl := by
              have := HR.out
              subst this
              rw [List.getElem_drop]
              congr 1
              omega
            obtain ⟨c2, hc2⟩ : ∃ c, t[E]'hEl = c := ⟨_, rfl⟩
            have hgE' : (strB t)[E] = c2 := hgE.trans hc2
            have t1 : (E : Int) < (t.length : Int) := by omega
            rcases Nat.lt_or_ge E (at_ + 1 + n) with hin | hin
            · obtain ⟨_, hlet⟩ := nameN_at r (E - (at_ + 1)) (by rw [HN.out]; omega)
              rw [hrE, hc2, hbk] at hlet
              have HLET := Lib.hid hlet
              clear hlet hgE hrE hc2 hbk
              go_wp2_with fail
              refine (letter_calls wr c2 b true HLET.out).mono ?_
              rintro en w2 ⟨rfl, rfl⟩
              go_wp2_with fail
              go_roundg (at_ + 1 + n - (E + 1))
              case measure => have := HG2.out; omega
              case rel => exact ⟨E + 1, by omega, by omega, rfl, by go_num, rfl⟩
            · have hEn : E = at_ + 1 + n := by omega
              have HEN := Lib.hid hEn
              have hsub : E - (at_ + 1) = n := by omega
              have HSUB := Lib.hid hsub
              have hrn : r[n]? = some c2 := by
                rw [List.getElem?_eq_getElem (show n < r.length by omega), ← hc2, ← hrE]
                congr 2
                exact HSUB.out.symm
              have hend := nameN_endQ HN.out hrn
              rw [HSUB.out] at hbk
              rw [hbk] at hend
              have HLET := Lib.hid hend
              have HRN := Lib.hid hrn
              clear hend hgE hrE hc2 hrn hsub hEn hin hE2
              go_wp2_with fail
              refine (letter_calls wr c2 b false HLET.out).mono ?_
              rintro en w2 ⟨rfl, rfl⟩
              have HBK := Lib.hid hbk
              clear hbk
              rcases Nat.eq_zero_or_pos n with h0 | h0
              · have hsn := sign_none r (by rw [HN.out]; exact h0)
                cases r with
                | nil => have := HEN.out; simp at hrl; omega
                | cons y r' =>
                  have hy : y = c2 := by
                    have h := HRN.out
                    rw [h0] at h
                    simpa using h
                  subst hy
                  simp only at hsn
                  by_cases hy36 : y = 36
                  · subst hy36
                    rw [if_pos rfl] at hsn
                    have hx2 : ((strB t)[E]'hbE).toNat = 36 := by rw [hgE']; rfl
                    have hr' : r' = t.drop (E + 1) := by
                      have h := congrArg (List.drop 1) HR.out
                      rw [List.drop_drop] at h
                      simp only [List.drop_succ_cons, List.drop_zero] at h
                      rw [← h]
                      congr 1
                      have := HEN.out
                      omega
                    have hfin : partsL t = (partsL (t.drop (E + 1))).map ((d ++ [([36], false)]) ++ ·) := by rw [HPS.out, hsn, pmap, ← hr']
                    have HF := Lib.hid hfin
                    have tg0 : ¬ (at_ : Int) + 1 < (E : Int) := by have := HEN.out; omega
                    clear hsn hr' hfin hb hgE'
                    go_wp2_with (at_builtin; refine wpList_appP (W := w2) rfl _ _ rfl (fun k => w.heap.size ≤ k) (.slice A4 d.length c4) d [36] false rfl rfl HROW.out (fun k hk => by omega) (by omega) ?_; intro v1 w3 hown hkp)
                    go_roundg (t.length - (E + 1))
                    case measure => have := HG.out; have := HEN.out; omega
                    case rel => exact ⟨E + 1, d ++ [([36], false)], by omega, rfl, by go_num, hown, HKR.out.trans hkp fun b hb => .inr (HROW.out.2 b hb), HF.out, by rw [List.length_append]; have := HEN.out; simp; omega⟩
                  · rw [if_neg hy36] at hsn
                    have hfin : pl = none := by rw [← HPL.out, HPS.out, hsn]; rfl
                    subst hfin
                    have n36 : ((y.toNat : Int) == 36) = false := by
                      rw [beq_eq_false_iff_ne]
                      intro e
                      exact hy36 (UInt8.toNat_inj.1 (by have : y.toNat = 36 := by omega
                                                        rw [this]; rfl))
                    have n36' : ((y.toNat : Int) != 36) = true := by rw [bne, n36]; rfl
                    have tg0 : ¬ (at_ : Int) + 1 < (E : Int) := by have := HEN.out; omega
                    clear hsn hb
                    go_wp2_with fail
                    go_ret2
                    exact ⟨.slice none 0 0, rfl, RowP.nil _ _, HKR.out⟩
              · have hEN := HEN.out
                have HEN2 := Lib.hid hEN
                have hsn := sign_name r (by rw [HN.out]; omega)
                have hpre := nameN_prefix r
                obtain ⟨N, hN⟩ : ∃ N, nameN r = N := ⟨_, rfl⟩
                have hnl2 := HN.out
                rw [hN] at hsn hpre hnl2
                rw [hnl2] at hsn hpre
                have hcut := strB_cut t (at_ + 1) E
                rw [show E - (at_ + 1) = n by omega, HR.out, ← hpre] at hcut
                have hdd : r.drop n = t.drop E := by
                  have := HR.out
                  subst this
                  rw [List.drop_drop]
                  congr 1
                  omega
                have hfin : partsL t = (partsL (t.drop E)).map ((d ++ [(N, true)]) ++ ·) := by rw [HPS.out, hsn, pmap, hdd]
                have HF := Lib.hid hfin
                have tg : (at_ : Int) + 1 < (E : Int) := by omega
                have hle1 : at_ + 1 ≤ (strB t).size := by rw [strB_size]; omega
                have hle2 : E ≤ (strB t).size := by rw [strB_size]; omega
                clear hsn hpre hN hdd hfin hb hnl2 hEN
                go_wp2_with (at_builtin; refine wpList_appP (W := w2) rfl _ _ rfl (fun k => w.heap.size ≤ k) (.slice A4 d.length c4) d N true rfl rfl HROW.out (fun k hk => by omega) (by omega) ?_; intro v1 w3 hown hkp)
                go_roundg (t.length - E)
                case measure => have := HG.out; have := HEN2.out; omega
                case rel => exact ⟨E, d ++ [(N, true)], by omega, rfl, by go_num, hown, HKR.out.trans hkp fun b hb => .inr (HROW.out.2 b hb), HF.out, by rw [List.length_append]; have := HEN2.out; simp; omega⟩
          · obtain rfl : E = t.length := by omega
            have hen : n = t.length - (at_ + 1) := by omega
            have t1 : ¬ (t.length : Int) < (t.length : Int) := by omega
            clear hbk
            rcases Nat.eq_zero_or_pos n with h0 | h0
            · have hrnil : r = [] := List.eq_nil_of_length_eq_zero (by omega)
              have hsn : partsM .s r = none := by rw [hrnil]; rfl
              have hfin : pl = none := by rw [← HPL.out, HPS.out, hsn]; rfl
              subst hfin
              have t2 : ¬ (at_ : Int) + 1 < (t.length : Int) := by omega
              clear hsn hb hrnil
              go_wp2_with fail
              go_ret2
              exact ⟨.slice none 0 0, rfl, RowP.nil _ _, HKR.out⟩
            · have hEN := hen
              have HEN2 := Lib.hid hEN
              have hsn := sign_name r (by rw [HN.out]; omega)
              have hpre := nameN_prefix r
              obtain ⟨N, hN⟩ : ∃ N, nameN r = N := ⟨_, rfl⟩
              have hnl2 := HN.out
              rw [hN] at hsn hpre hnl2
              rw [hnl2] at hsn hpre
              have hcut := strB_cut t (at_ + 1) t.length
              rw [show t.length - (at_ + 1) = n by omega, HR.out, ← hpre] at hcut
              have hdd : r.drop n = t.drop t.length := by
                have := HR.out
                subst this
                rw [List.drop_drop]
                congr 1
                omega
              have hfin : partsL t = (partsL (t.drop t.length)).map ((d ++ [(N, true)]) ++ ·) := by rw [HPS.out, hsn, pmap, hdd]
              have HF := Lib.hid hfin
              have tg : (at_ : Int) + 1 < (t.length : Int) := by omega
              have hle1 : at_ + 1 ≤ (strB t).size := by rw [strB_size]; omega
              have hle2 : t.length ≤ (strB t).size := by rw [strB_size]; omega
              clear hsn hpre hN hdd hfin hb hnl2 hEN
              go_wp2_with (at_builtin; refine wpList_appP (W := wr) rfl _ _ rfl (fun k => w.heap.size ≤ k) (.slice A4 d.length c4) d N true rfl rfl HROW.out (fun k hk => by omega) (by omega) ?_; intro v1 w3 hown hkp)
              go_roundg (t.length - t.length)
              case measure => have := HG.out; have := HEN2.out; omega
              case rel => exact ⟨t.length, d ++ [(N, true)], by omega, rfl, by go_num, hown, HKR.out.trans hkp fun b hb => .inr (HROW.out.2 b hb), HF.out, by rw [List.length_append]; have := HEN2.out; simp; omega⟩
      · have n36 : ((c.toNat : Int) == 36) = false := by
          rw [beq_eq_false_iff_ne]
          intro e
          exact h36 (UInt8.toNat_inj.1 (by have : c.toNat = 36 := by omega
                                           rw [this]; rfl))
        have n36' : ((c.toNat : Int) != 36) = true := by rw [bne, n36]; rfl
        have hfin : partsL t = (partsL (t.drop (at_ + 1))).map ((d ++ [([c], false)]) ++ ·) := by
          have e : partsL (c :: r) = (partsL r).map ([([c], false)] ++ ·) := by
            rw [partsL, partsM, if_neg h36]
            rfl
          rw [HP.out, hdc, e, pmap, ← hr]
        have HF := Lib.hid hfin
        clear hg hdc hc hfin hr h36 HP
        go_wp2_with (at_builtin; refine wpList_appP (W := wr) rfl _ _ rfl (fun k => w.heap.size ≤ k) (.slice A4 d.length c4) d [c] false rfl rfl HROW.out (fun k hk => by omega) (by omega) ?_; intro v1 w3 hown hkp)
        go_roundg (t.length - (at_ + 1))
        case measure => have := HG.out; omega
        case rel => exact ⟨at_ + 1, d ++ [([c], false)], by omega, rfl, by go_num, hown, HKR.out.trans hkp fun b hb => .inr (HROW.out.2 b hb), HF.out, by rw [List.length_append]; simp; omega⟩
    · obtain rfl : at_ = t.length := by omega
      have hfin : pl = some d := by
        rw [← HPL.out, HP.out, List.drop_eq_nil_of_le (Nat.le_refl _)]
        simp [partsL_nil]
      subst hfin
      go_wp2_with fail
      go_ret2
      exact ⟨_, rfl, HROW.out, HKR.out⟩
end Go.Proofs.YtcggpedebcamdaaDoor
