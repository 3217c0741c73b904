/- Lines: the reference's functions: what they compute. -/
import Derived.Test.YtncoappagcameaaDoorLineW3
set_option linter.unusedVariables false
set_option linter.unusedSimpArgs false
namespace Go.Proofs.YtncoappagcameaaDoor
open Go.RowKit Go.Shelf

theorem info_str : (Tryd.prog.info? 9).map (fun i => (i.zero, i.size, i.bytes)) = some (some (.string ByteArray.empty), 1, 16) := by kernel_rfl
theorem cut_eq (l : List UInt8) {f i : Nat} (h : f ≤ i) : strB ((l.drop f).take (i - f)) = strB ((l.take i).drop f) := by
  rw [List.drop_take]

/-! ### The reference's pieces -/
def RP (l : List UInt8) (out : List (List UInt8)) (from_ i : Nat) : Prop :=
  (i ≤ l.length ∧ from_ ≤ i ∧ out.length ≤ i ∧ Lib.split l [44] = out ++ splitG ((l.take i).drop from_) (l.drop i)) ∨ (i = l.length + 1 ∧ out.length ≤ i ∧ Lib.split l [44] = out)
theorem RP.start (l : List UInt8) : RP l [] 0 0 := .inl ⟨Nat.zero_le _, Nat.le_refl _, Nat.le_refl _, split_G l⟩
theorem RP.go {l : List UInt8} {out : List (List UInt8)} {f i : Nat} (h : RP l out f i) (hi : i < l.length) (hb : ¬ l[i] = 44) : RP l out f (i + 1) := by
  rcases h with ⟨h1, h2, h3, h4⟩ | ⟨h1, _⟩
  · refine .inl ⟨hi, by omega, by omega, ?_⟩
    rw [h4, List.drop_eq_getElem_cons hi, splitG, if_neg hb, List.take_succ_eq_append_getElem hi, List.drop_append_of_le_length (by rw [List.length_take]; omega)]
  · omega
theorem RP.cut {l : List UInt8} {out : List (List UInt8)} {f i : Nat} (h : RP l out f i) (hi : i < l.length) (hb : l[i] = 44) : RP l (out ++ [(l.take i).drop f]) (i + 1) (i + 1) := by
  rcases h with ⟨h1, h2, h3, h4⟩ | ⟨h1, _⟩
  · refine .inl ⟨hi, by omega, by simp; omega, ?_⟩
    have e : (l.take (i + 1)).drop (i + 1) = [] := List.drop_eq_nil_of_le (by rw [List.length_take]; omega)
    rw [h4, e, List.drop_eq_getElem_cons hi, splitG, if_pos hb]
    simp
  · omega
theorem RP.fin {l : List UInt8} {out : List (List UInt8)} {f i : Nat} (h : RP l out f i) (hi : i = l.length) : RP l (out ++ [(l.take i).drop f]) (i + 1) (i + 1) := by
  rcases h with ⟨h1, h2, h3, h4⟩ | ⟨h1, _⟩
  · refine .inr ⟨by omega, by simp; omega, ?_⟩
    rw [h4, hi, List.drop_length, splitG]
  · omega
def RPS (w0 : World) (l : List UInt8) (gk : Nat) (v3 v4 v5 : Value) (wr : World) : Prop :=
  ∃ (out : List (List UInt8)) (f i : Nat), i ≤ l.length + 1 ∧ gk = l.length + 1 - i ∧ v4 = .int .i64 (f : Int) ∧ v5 = .int .i64 (i : Int) ∧ f ≤ i ∧ Row wr 9 (fun b => w0.heap.size ≤ b) v3 (strs out) ∧ RP l out f i ∧ Kept w0 wr NoB

set_option maxHeartbeats 2000000 in
set_option maxRecDepth 100000 in
theorem refSplit_calls (w : World) (l : List UInt8) (hl : l.length ≤ 1099511627) :
    Calls Tryd.prog 23 #[.string (strB l)] w fun en w' => ∃ v, en = .returned v ∧ Row w' 9 (fun k => w.heap.size ≤ k) v (strs (Lib.split l [44])) ∧ Kept w w' NoB := by
  go_enter Tryd.func23, Tryd.ntmps23
  go_wp2_with fail
  go_loopg [3, 4, 5] (l.length + 1) (fun gk v3 v4 v5 wr => RPS w l gk v3 v4 v5 wr)
  case atStart => exact ⟨[], 0, 0, Nat.zero_le _, rfl, rfl, rfl, Nat.le_refl _, Row.made0 _ _ _ (Nat.le_refl _), RP.start l, (Kept.refl _ _).alloc _⟩
  case round =>
    obtain ⟨out, f, i, hi, hgk, rfl, rfl, hfi, hrow, hw, hkr⟩ := hrel
    have HG := Lib.hid hgk
    have HKR := Lib.hid hkr
    have HRW := Lib.hid hw
    have HSZ := hkr.size
    have holen : out.length ≤ l.length + 1 := by rcases hw with ⟨_, _, h, _⟩ | ⟨_, h, _⟩ <;> omega
    clear hgk hkr hw
    have ends : ∀ v1 w1, (Row w1 9 (fun b => w.heap.size ≤ b) v1 (strs (out ++ [(l.take i).drop f]))) → Kept w w1 NoB → i < l.length + 1 → RP l (out ++ [(l.take i).drop f]) (i + 1) (i + 1) → RPS w l (l.length + 1 - (i + 1)) v1 (.int .i64 ((i : Int) + 1)) (.int .i64 ((i : Int) + 1)) w1 :=
      fun v1 w1 h1 h2 h3 h4 => ⟨_, i + 1, i + 1, h3, rfl, by go_num, by go_num, Nat.le_refl _, h1, h4, h2⟩
    have ENDS := Lib.hid ends
    clear ends
    rcases Nat.lt_or_ge i l.length with hlt | hge
    · by_cases h44 : l[i] = 44
      · have hcut := HRW.out.cut hlt h44
        have HC := Lib.hid hcut
        have hx : ((strB l)[i]'(by rw [strB_size]; exact hlt)).toNat = 44 := by rw [strB_getI, h44]; rfl
        have hex := strB_cut l f i
        rw [cut_eq l hfi] at hex
        have hle : i ≤ (strB l).size := by rw [strB_size]; omega
        clear hcut h44
        go_wp2_with (at_builtin; refine wpList_app1 (W := wr) rfl _ _ 40 9 (.string ByteArray.empty) 16 rfl Tryd.underlying40 info_str rfl (by decide) (fun k => w.heap.size ≤ k) u3 (strs out) (.string (strB ((l.take i).drop f))) rfl rfl rfl hrow (fun k hk => by omega) (by rw [strs_length]; omega) ?_; intro v4 w4 hown hkp hob)
        go_roundg (l.length + 1 - (i + 1))
        case measure => have := HG.out; omega
        case rel =>
          refine ENDS.out _ _ ?_ ?_ (by omega) HC.out
          · rw [strs_append]; exact hown
          · exact HKR.out.trans hkp fun b ho => .inr (hrow.2 b ho)
      · have hgo := HRW.out.go hlt h44
        have HC := Lib.hid hgo
        have n44 : ((l[i].toNat : Int) == 44) = false := by
          rw [beq_eq_false_iff_ne]
          intro e
          exact h44 (UInt8.toNat_inj.1 (by show _ = 44; omega))
        have hx' : ((strB l)[i]'(by rw [strB_size]; exact hlt)).toNat = l[i].toNat := by rw [strB_getI]
        clear hgo h44
        go_wp2_with fail
        go_roundg (l.length + 1 - (i + 1))
        case measure => have := HG.out; omega
        case rel => exact ⟨out, f, i + 1, by omega, rfl, rfl, by go_num, by omega, hrow, HC.out, HKR.out⟩
    · rcases Nat.lt_or_ge i (l.length + 1) with hlt | hge2
      · obtain rfl : i = l.length := by omega
        have hfin := HRW.out.fin rfl
        rw [List.take_length] at hfin ENDS
        have HC := Lib.hid hfin
        clear hfin
        have hex := strB_cut l f l.length
        rw [cut_eq l hfi, List.take_length] at hex
        go_wp2_with (at_builtin; refine wpList_app1 (W := wr) rfl _ _ 40 9 (.string ByteArray.empty) 16 rfl Tryd.underlying40 info_str rfl (by decide) (fun k => w.heap.size ≤ k) u3 (strs out) (.string (strB (l.drop f))) rfl rfl rfl hrow (fun k hk => by omega) (by rw [strs_length]; omega) ?_; intro v4 w4 hown hkp hob)
        go_roundg (l.length + 1 - (l.length + 1))
        case measure => have := HG.out; omega
        case rel =>
          refine ENDS.out _ _ ?_ ?_ (by omega) HC.out
          · rw [strs_append]; exact hown
          · exact HKR.out.trans hkp fun b ho => .inr (hrow.2 b ho)
      · obtain rfl : i = l.length + 1 := by omega
        have hw : Lib.split l [44] = out := by
          rcases HRW.out with ⟨h, _⟩ | ⟨_, _, h⟩
          · omega
          · exact h
        have HW := Lib.hid hw
        clear hw
        go_wp2_with fail
        go_ret
        exact ⟨_, rfl, by rw [HW.out]; exact hrow, HKR.out⟩

/-! ### Digits, patterns -/
theorem refDigit_calls (w : World) (c : UInt8) :
    Calls Tryd.prog 22 #[.int .u8 (c.toNat : Int)] w fun en w' => en = .returned (.bool (dgC c)) ∧ w' = w := by
  obtain ⟨x, hx⟩ : ∃ x : Nat, c.toNat = x := ⟨_, rfl⟩
  unfold dgC
  rw [hx]
  go_enter Tryd.func22, Tryd.ntmps22
  by_cases h1 : 48 ≤ x
  · have t1 : (48 : Int) ≤ (x : Int) := by omega
    by_cases h2 : x ≤ 57
    · have t2 : (x : Int) ≤ 57 := by omega
      have e : decide (48 ≤ x ∧ x ≤ 57) = true := decide_eq_true ⟨h1, h2⟩
      rw [e]
      go_wp2_with fail
      go_ret
      exact ⟨rfl, rfl⟩
    · have t2 : ¬ (x : Int) ≤ 57 := by omega
      have e : decide (48 ≤ x ∧ x ≤ 57) = false := decide_eq_false (by omega)
      rw [e]
      go_wp2_with fail
      go_ret
      exact ⟨rfl, rfl⟩
  · have t1 : ¬ (48 : Int) ≤ (x : Int) := by omega
    have e : decide (48 ≤ x ∧ x ≤ 57) = false := decide_eq_false (by omega)
    rw [e]
    go_wp2_with fail
    go_ret
    exact ⟨rfl, rfl⟩
def DgS (w0 : World) (l : List UInt8) (gk : Nat) (v : Value) (wr : World) : Prop := ∃ i, i ≤ l.length ∧ gk = l.length - i ∧ v = .int .i64 (i : Int) ∧ (l.take i).all dgC = true ∧ wr = w0
theorem allC_step {l : List UInt8} {q : UInt8 → Bool} {i : Nat} (h : i < l.length) (h1 : (l.take i).all q = true) (h2 : q l[i] = true) : (l.take (i + 1)).all q = true := by
  rw [List.take_succ_eq_append_getElem h, List.all_append, h1]
  simp [h2]
theorem allC_miss {l : List UInt8} {q : UInt8 → Bool} {i : Nat} (h : i < l.length) (h2 : q l[i] = false) : l.all q = false := by
  cases h3 : l.all q with
  | false => rfl
  | true => rw [List.all_eq_true.1 h3 _ (List.getElem_mem h)] at h2; cases h2
set_option maxHeartbeats 2000000 in
set_option maxRecDepth 100000 in
theorem refPattern_calls (w : World) (proto : Int) (s : List UInt8) (hl : s.length ≤ 1099511627776) :
    Calls Tryd.prog 24 #[.int .i64 proto, .string (strB s)] w fun en w' => en = .returned (.bool (patL proto s)) ∧ w' = w := by
  obtain ⟨res, hres⟩ : ∃ res, patL proto s = res := ⟨_, rfl⟩
  rw [hres]
  have HRES := Lib.hid hres
  clear hres
  go_enter Tryd.func24, Tryd.ntmps24
  by_cases h13 : proto = 1 ∨ proto = 3
  · have hpat : res = (decide (s.length ≤ 3) && numL s) := by rw [← HRES.out, patL, if_pos h13]
    have HP := Lib.hid hpat
    clear hpat HRES
    cases s with
    | nil =>
      have hr : res = false := HP.out
      subst hr
      rcases h13 with rfl | rfl
      all_goals
        go_wp2_with fail
        go_ret
        exact ⟨rfl, rfl⟩
    | cons c r =>
      have q1 : ¬ ((r.length : Int) + 1 < 1) := by omega
      by_cases h3 : (c :: r).length ≤ 3
      · have q3 : ¬ (3 < (r.length : Int) + 1) := by simp at h3; omega
        have hr : res = (fstC c && (c :: r).all dgC) := by rw [HP.out, decide_eq_true h3]; rfl
        have HR := Lib.hid hr
        clear hr HP h3
        obtain ⟨x, hx⟩ : ∃ x : Nat, c.toNat = x := ⟨_, rfl⟩
        have hix : ((strB (c :: r))[0]'(by rw [strB_size]; simp)).toNat = x := hx
        have hfs : fstC c = decide (49 ≤ x ∧ x ≤ 53) := by unfold fstC; rw [hx]
        have HFS := Lib.hid hfs
        clear hfs hx
        by_cases a1 : 49 ≤ x
        · have b1 : ¬ ((x : Int) < 49) := by omega
          by_cases a2 : x ≤ 53
          · have b2 : ¬ (53 < (x : Int)) := by omega
            have hr : res = (c :: r).all dgC := by rw [HR.out, HFS.out, decide_eq_true ⟨a1, a2⟩]; rfl
            have HR' := Lib.hid hr
            have hlen : (c :: r).length = r.length + 1 := rfl
            clear hr HR HFS
            obtain ⟨l, hle⟩ : ∃ l, c :: r = l := ⟨_, rfl⟩
            rw [hle] at HR' hlen
            have HLE := Lib.hid hle
            have HLN := Lib.hid hlen
            clear hle hlen
            rcases h13 with rfl | rfl
            all_goals
              go_wp2_with fail
              go_loopg [5] l.length (fun gk v4 wr => DgS w l gk v4 wr)
              case atStart => exact ⟨0, Nat.zero_le _, rfl, rfl, rfl, rfl⟩
              case round =>
                obtain ⟨i, hi, hgk, rfl, hall, rfl⟩ := hrel
                have HG := Lib.hid hgk
                have HALL := Lib.hid hall
                clear hgk hall
                rcases Nat.lt_or_ge i l.length with hlt | hge
                · have hlt' : i < r.length + 1 := by rw [← HLN.out]; exact hlt
                  have hjx : ((strB (c :: r))[i]'(by rw [strB_size]; exact hlt')).toNat = l[i].toNat := by
                    have := HLE.out
                    subst this
                    rw [strB_getI]
                  obtain ⟨d, hd⟩ : ∃ d, l[i] = d := ⟨_, rfl⟩
                  rw [hd] at hjx
                  have hgo : dgC d = true → (l.take (i + 1)).all dgC = true := fun h => allC_step hlt HALL.out (by rw [hd]; exact h)
                  have hno : dgC d = false → res = false := fun h => by rw [HR'.out]; exact allC_miss hlt (by rw [hd]; exact h)
                  have HGO := Lib.hid hgo
                  have HNO := Lib.hid hno
                  clear hgo hno hd
                  go_wp2_with fail
                  refine (refDigit_calls _ d).mono ?_
                  cases hq : dgC d with
                  | true =>
                    rintro en w3 ⟨rfl, rfl⟩
                    have HQ := Lib.hid hq
                    clear hq
                    go_wp2_with fail
                    go_roundg (l.length - (i + 1))
                    case measure => have := HG.out; omega
                    case rel => exact ⟨i + 1, hlt, rfl, by go_num, HGO.out HQ.out, rfl⟩
                  | false =>
                    rintro en w3 ⟨rfl, rfl⟩
                    have hr := HNO.out hq
                    subst hr
                    clear hq
                    go_wp2_with fail
                    go_ret
                    exact ⟨rfl, rfl⟩
                · have hge' : ¬ (i : Int) < (r.length : Int) + 1 := by have := HLN.out; omega
                  obtain rfl : i = l.length := by omega
                  have hr : res = true := by
                    rw [HR'.out]
                    have := HALL.out
                    rwa [List.take_length] at this
                  subst hr
                  go_wp2_with fail
                  go_ret
                  exact ⟨rfl, rfl⟩
          · have b2 : (53 < (x : Int)) := by omega
            have hr : res = false := by rw [HR.out, HFS.out, decide_eq_false (by omega)]; rfl
            subst hr
            rcases h13 with rfl | rfl
            all_goals
              go_wp2_with fail
              go_ret
              exact ⟨rfl, rfl⟩
        · have b1 : ((x : Int) < 49) := by omega
          have hr : res = false := by rw [HR.out, HFS.out, decide_eq_false (by omega)]; rfl
          subst hr
          rcases h13 with rfl | rfl
          all_goals
            go_wp2_with fail
            go_ret
            exact ⟨rfl, rfl⟩
      · have q3 : (3 < (r.length : Int) + 1) := by simp at h3; omega
        have hr : res = false := by rw [HP.out, decide_eq_false h3]; rfl
        subst hr
        rcases h13 with rfl | rfl
        all_goals
          go_wp2_with fail
          go_ret
          exact ⟨rfl, rfl⟩
  · have e1 : (proto == 1) = false := by rw [beq_eq_false_iff_ne]; omega
    have e3 : (proto == 3) = false := by rw [beq_eq_false_iff_ne]; omega
    have n1 : ¬ proto = 1 := by omega
    have n3 : ¬ proto = 3 := by omega
    by_cases h2 : proto = 2
    · have hpat : res = (s == [43] || (s == [45] || s == [62])) := by rw [← HRES.out, patL, if_neg h13, if_pos h2]
      have HP := Lib.hid hpat
      clear hpat h13 HRES n1 n3 e1 e3
      subst h2
      by_cases q1 : s = [43]
      · subst q1
        have hr : res = true := HP.out
        subst hr
        go_wp2_with fail
        go_ret
        exact ⟨rfl, rfl⟩
      · have b1 : (s == [43]) = false := beq_eq_false_iff_ne.2 q1
        by_cases q2 : s = [45]
        · subst q2
          have hr : res = true := HP.out
          subst hr
          go_wp2_with fail
          go_ret
          exact ⟨rfl, rfl⟩
        · have b2 : (s == [45]) = false := beq_eq_false_iff_ne.2 q2
          by_cases q3 : s = [62]
          · subst q3
            have hr : res = true := HP.out
            subst hr
            go_wp2_with fail
            go_ret
            exact ⟨rfl, rfl⟩
          · have b3 : (s == [62]) = false := beq_eq_false_iff_ne.2 q3
            have hr : res = false := by rw [HP.out, b1, b2, b3]; rfl
            subst hr
            clear q1 q2 q3
            go_wp2_with fail
            go_ret
            exact ⟨rfl, rfl⟩
    · have e2 : (proto == 2) = false := by rw [beq_eq_false_iff_ne]; omega
      have hr : res = false := by rw [← HRES.out, patL, if_neg h13, if_neg h2]
      subst hr
      clear h13 h2
      go_wp2_with fail
      go_ret
      exact ⟨rfl, rfl⟩
end Go.Proofs.YtncoappagcameaaDoor
