/- Lines: Codes: what it computes. -/
import Derived.Test.YtncoappagcameaaDoorLineW2
import Derived.WalkMore
set_option linter.unusedVariables false
set_option linter.unusedSimpArgs false
namespace Go.Proofs.YtncoappagcameaaDoor
open Go.RowKit Go.Shelf

set_option maxHeartbeats 1000000 in
set_option maxRecDepth 100000 in
theorem codes_calls (w : World) (proto : Int) (l : List UInt8) (hl : l.length ≤ 1099511627) (hm : MaxI w) :
    Calls Tryd.prog 12 #[.int .i64 proto, .string (strB l)] w fun en w' => en = .returned (.bool (codesL proto l)) ∧ Kept w w' NoB := by
  obtain ⟨res, hres⟩ : ∃ res, codesL proto l = res := ⟨_, rfl⟩
  rw [hres]
  have HRES := Lib.hid hres
  clear hres
  have hlp : ∀ i, (h : i < (Lib.split l [44]).length) → ((Lib.split l [44])[i]).length ≤ l.length := fun i h => piece_le h
  go_enter Tryd.func12, Tryd.ntmps12
  go_wp2_with fail
  refine wp_scope_straight ?_
  go_wp2_with fail
  refine wp_label ?_
  go_wp2_with fail
  refine (split_calls w l [44] hl (by decide) hm rfl).mono ?_
  rintro en w2 ⟨rfl, hw2⟩
  have hlen := split_len l [44]
  have hres : (Lib.split l [44]).all (patL proto) = res := HRES.out
  obtain ⟨ps, hps⟩ : ∃ ps, Lib.split l [44] = ps := ⟨_, rfl⟩
  simp only [hps] at hw2 hlen hres hlp ⊢
  have hR : Reads w2 (fun k => k = w.heap.size) (some ⟨w.heap.size, 0, none⟩) ps.length (strs ps) := by
    rw [hw2]
    have := Reads.lit w 9 (strs ps) _ rfl (0, 0)
    rwa [strs_length] at this
  have hK2 : Kept w w2 NoB := by rw [hw2]; exact (Kept.refl _ _).alloc _
  have HR0 := Lib.hid hres
  have HLP := Lib.hid hlp
  clear hw2 HRES hres hlp
  go_wp2_with fail
  go_loopg [6, 10] ps.length (fun gk v6 v10 wr => CdS w w.heap.size ps (patL proto) true gk v10 wr)
  case atStart => exact ⟨0, Nat.zero_le _, rfl, rfl, rfl, hR, hK2⟩
  case round =>
    obtain ⟨i, hi, hgk, rfl, hall, hrd, hkr⟩ := hrel
    have HG := Lib.hid hgk
    have HKR := Lib.hid hkr
    have HRD := Lib.hid hrd
    have HALL := Lib.hid hall
    clear hgk hkr hR hK2 hrd hall
    rcases Nat.lt_or_ge i ps.length with hlt | hge
    · obtain ⟨ad, u, hA, hu, hcell⟩ := HRD.out.at_ hlt
      injection hA with hA
      subst hA
      rw [strs_at ps i hlt] at hu
      injection hu with hu
      subst hu
      rw [add_lit0] at hcell
      have hpl := HLP.out i hlt
      obtain ⟨x, hx⟩ : ∃ x, ps[i] = x := ⟨_, rfl⟩
      rw [hx] at hcell hpl
      have hgo : patL proto x = true → (ps.take (i + 1)).all (fun x => patL proto x == true) = true := fun h =>
        all_step (q := fun x => patL proto x == true) hlt HALL.out (by simp [hx, h])
      have hno : patL proto x = false → res = false := fun h => by rw [← HR0.out]; exact all_false hlt (by rw [hx]; exact h)
      have HGO := Lib.hid hgo
      have HNO := Lib.hid hno
      clear hgo hno hx
      have t1 : (proto == 1) = decide (proto = 1) := rfl
      by_cases h13 : proto = 1 ∨ proto = 3
      · have hpat : patL proto x = (decide (x.length ≤ 3) && numL x) := by rw [patL, if_pos h13]
        have HPAT := Lib.hid hpat
        clear hpat
        by_cases h3 : x.length ≤ 3
        · have t3 : (x.length : Int) ≤ 3 := by omega
          obtain ⟨b, hb⟩ : ∃ b, numL x = b := ⟨_, rfl⟩
          have HB := Lib.hid hb
          clear hb t1
          rcases h13 with rfl | rfl
          all_goals
            go_wp2_with fail
            refine (number_calls _ x (by omega)).mono ?_
            rw [HB.out]
            rintro en w3 ⟨rfl, hk3⟩
            have HK3 := Lib.hid (HKR.out.trans' hk3)
            have HR3 := Lib.hid (HRD.out.kept0 hk3)
            clear hk3
            cases b with
            | true =>
              go_wp2_with fail
              go_roundg (ps.length - (i + 1))
              case measure => have := HG.out; omega
              case rel => exact ⟨i + 1, hlt, rfl, by go_num, HGO.out (by rw [HPAT.out, HB.out]; simp [h3]), HR3.out, HK3.out⟩
            | false =>
              have hr := HNO.out (by rw [HPAT.out, HB.out]; simp)
              subst hr
              go_wp2_with fail
              first | go_ret | (rw [Exit.noGoto_ret]; go_ret)
              exact ⟨rfl, HK3.out⟩
        · have t3 : ¬ (x.length : Int) ≤ 3 := by omega
          have hr := HNO.out (by rw [HPAT.out]; simp [h3])
          subst hr
          clear t1
          rcases h13 with rfl | rfl
          all_goals
            go_wp2_with fail
            first | go_ret | (rw [Exit.noGoto_ret]; go_ret)
            exact ⟨rfl, HKR.out⟩
      · have e1 : (proto == 1) = false := by rw [beq_eq_false_iff_ne]; omega
        have e3 : (proto == 3) = false := by rw [beq_eq_false_iff_ne]; omega
        by_cases h2 : proto = 2
        · have hpat : patL proto x = (x == [43] || (x == [45] || x == [62])) := by rw [patL, if_neg h13, if_pos h2]
          have HPAT := Lib.hid hpat
          clear hpat h13 t1
          subst h2
          by_cases q1 : x = [43]
          · subst q1
            go_wp2_with fail
            go_roundg (ps.length - (i + 1))
            case measure => have := HG.out; omega
            case rel => exact ⟨i + 1, hlt, rfl, by go_num, HGO.out (by rw [HPAT.out]; rfl), HRD.out, HKR.out⟩
          · have b1 : (x == [43]) = false := beq_eq_false_iff_ne.2 q1
            by_cases q2 : x = [45]
            · subst q2
              go_wp2_with fail
              go_roundg (ps.length - (i + 1))
              case measure => have := HG.out; omega
              case rel => exact ⟨i + 1, hlt, rfl, by go_num, HGO.out (by rw [HPAT.out]; rfl), HRD.out, HKR.out⟩
            · have b2 : (x == [45]) = false := beq_eq_false_iff_ne.2 q2
              by_cases q3 : x = [62]
              · subst q3
                go_wp2_with fail
                go_roundg (ps.length - (i + 1))
                case measure => have := HG.out; omega
                case rel => exact ⟨i + 1, hlt, rfl, by go_num, HGO.out (by rw [HPAT.out]; rfl), HRD.out, HKR.out⟩
              · have b3 : (x == [62]) = false := beq_eq_false_iff_ne.2 q3
                have hr := HNO.out (by rw [HPAT.out, b1, b2, b3]; rfl)
                subst hr
                clear q1 q2 q3
                go_wp2_with fail
                first | go_ret | (rw [Exit.noGoto_ret]; go_ret)
                exact ⟨rfl, HKR.out⟩
        · have e2 : (proto == 2) = false := by rw [beq_eq_false_iff_ne]; omega
          have hr := HNO.out (by rw [patL, if_neg h13, if_neg h2])
          subst hr
          clear h13 h2 t1
          go_wp2_with fail
          first | go_ret | (rw [Exit.noGoto_ret]; go_ret)
          exact ⟨rfl, HKR.out⟩
    · obtain rfl : i = ps.length := by omega
      have hr : res = true := by
        rw [← HR0.out]
        refine all_true ?_
        have := HALL.out
        rwa [List.take_length] at this
      subst hr
      go_wp2_with fail
      first | go_ret | (rw [Exit.noGoto_ret]; go_ret)
      exact ⟨rfl, HKR.out⟩
end Go.Proofs.YtncoappagcameaaDoor
