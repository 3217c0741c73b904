/- Lines: Status, Codes, Match: what they compute. -/
import Derived.Test.YtncoappagcameaaDoorLineW
set_option linter.unusedVariables false
set_option linter.unusedSimpArgs false
namespace Go.Proofs.YtncoappagcameaaDoor
open Go.RowKit Go.Shelf

theorem Blk.far3 {w : World} {g g' : Nat} {t : TypeId} {cs : Array Value} (h : Blk w g t cs) (hg : ¬ g = g') (x y z : Value) :
    Blk (((w.setCell ⟨g', 0, none⟩ x).setCell ⟨g', 1, none⟩ y).setCell ⟨g', 2, none⟩ z) g t cs := ((h.far (p := ⟨g', 0, none⟩) hg x).far (p := ⟨g', 1, none⟩) hg y).far (p := ⟨g', 2, none⟩) hg z
def stV (r : Option StV) : StV := r.getD ([], false, [])
def stR (r : Option StV) : Value := .tuple #[stA (stV r), .bool r.isSome]
theorem stR_some (x : StV) : stR (some x) = .tuple #[stA x, .bool true] := rfl
set_option maxHeartbeats 1000000 in
set_option maxRecDepth 100000 in
theorem status_calls (w : World) (proto : Int) (s : List UInt8) (hl : s.length ≤ 1099511627) (hm : MaxI w) :
    Calls Tryd.prog 11 #[.int .i64 proto, .string (strB s)] w fun en w' => en = .returned (stR (statusL proto s)) ∧ Kept w w' NoB := by
  obtain ⟨res, hres⟩ : ∃ res, statusL proto s = res := ⟨_, rfl⟩
  rw [hres]
  have HRES := Lib.hid hres
  clear hres
  go_enter Tryd.func11, Tryd.ntmps11
  have hb0 : Blk ((w.alloc (.cells #[.string ByteArray.empty, .bool false, .string ByteArray.empty] 27)).alloc (.cells #[.string ByteArray.empty, .bool false, .string ByteArray.empty] 27)) w.heap.size 27 #[.string ByteArray.empty, .bool false, .string ByteArray.empty] := (Blk.new _ _ _).alloc _
  have hb1 : Blk ((w.alloc (.cells #[.string ByteArray.empty, .bool false, .string ByteArray.empty] 27)).alloc (.cells #[.string ByteArray.empty, .bool false, .string ByteArray.empty] 27)) (w.heap.size + 1) 27 #[.string ByteArray.empty, .bool false, .string ByteArray.empty] := by
    have := Blk.new (w.alloc (.cells #[.string ByteArray.empty, .bool false, .string ByteArray.empty] 27)) 27 #[.string ByteArray.empty, .bool false, .string ByteArray.empty]
    rwa [World.size_alloc] at this
  have hk0 : Kept w ((w.alloc (.cells #[.string ByteArray.empty, .bool false, .string ByteArray.empty] 27)).alloc (.cells #[.string ByteArray.empty, .bool false, .string ByteArray.empty] 27)) NoB := ((Kept.refl _ _).alloc _).alloc _
  have HB0 := Lib.hid hb0
  have HB1 := Lib.hid hb1
  have HK0 := Lib.hid hk0
  clear hb0 hb1 hk0
  have hinr : w.heap.size ≤ w.heap.size + 1 := by omega
  have hne : ¬ w.heap.size = w.heap.size + 1 := by omega
  by_cases h13 : proto = 1 ∨ proto = 3
  · have hr : numberedL s = res := by rw [← HRES.out, statusL, if_pos h13]
    have HR := Lib.hid hr
    clear hr HRES
    rcases h13 with rfl | rfl
    all_goals
      go_wp2_with fail
      refine (numbered_calls _ s (by omega)).mono ?_
      rw [HR.out]
      rintro en w2 ⟨x, rfl, hx, hk2⟩
      have HK2 := Lib.hid (HK0.out.trans' hk2)
      have HC0 := Lib.hid (HB0.out.kept0 hk2)
      have HC1 := Lib.hid (HB1.out.kept0 hk2)
      obtain ⟨c0, c1, c2, f0, f1, f2⟩ := HC0.out.cells3
      obtain ⟨d0, d1, d2, g0, g1, g2⟩ := HC1.out.cells3
      have HX := Lib.hid hx
      unfold stA
      clear hk2 hx
      cases hq : res with
      | none =>
        simp only [Option.isSome_none]
        go_wp2_with fail
        refine bodyPost_ret (results_cell_row2 rfl _ _ w.heap.size 27 _ (0, 0) _ (.bool false) rfl rfl ((HC0.out.far3 hne (.string (strB x.1)) (.bool x.2.1) (.string (strB x.2.2))).set3 (.string ByteArray.empty) (.bool false) (.string ByteArray.empty)) Tryd.underlying27 rfl st_size) rfl ?_
        rw [hq]
        exact ⟨rfl, (HK2.out.set3 (.inr hinr) _ _ _).set3 (.inr (Nat.le_refl _)) _ _ _⟩
      | some y =>
        have hxy := HX.out y hq
        simp only [Option.isSome_some]
        have HXY := Lib.hid hxy
        have HQ := Lib.hid hq
        clear hxy hq
        go_wp2_with fail
        refine bodyPost_ret (results_cell_row2 rfl _ _ w.heap.size 27 _ (0, 0) _ (.bool true) rfl rfl ((HC0.out.far3 hne (.string (strB x.1)) (.bool x.2.1) (.string (strB x.2.2))).set3 (.string (strB x.1)) (.bool x.2.1) (.string (strB x.2.2))) Tryd.underlying27 rfl st_size) rfl ?_
        rw [HQ.out, ← HXY.out]
        exact ⟨rfl, (HK2.out.set3 (.inr hinr) _ _ _).set3 (.inr (Nat.le_refl _)) _ _ _⟩
  · by_cases h2 : proto = 2
    · have hr : signedL s = res := by rw [← HRES.out, statusL, if_neg h13, if_pos h2]
      have HR := Lib.hid hr
      clear hr HRES h13
      subst h2
      go_wp2_with fail
      refine (signed_calls _ s hl (hm.kept0 HK0.out)).mono ?_
      rw [HR.out]
      rintro en w2 ⟨x, rfl, hx, hk2⟩
      have HK2 := Lib.hid (HK0.out.trans' hk2)
      have HC0 := Lib.hid (HB0.out.kept0 hk2)
      have HC1 := Lib.hid (HB1.out.kept0 hk2)
      obtain ⟨c0, c1, c2, f0, f1, f2⟩ := HC0.out.cells3
      obtain ⟨d0, d1, d2, g0, g1, g2⟩ := HC1.out.cells3
      have HX := Lib.hid hx
      unfold stA
      clear hk2 hx
      cases hq : res with
      | none =>
        simp only [Option.isSome_none]
        go_wp2_with fail
        refine bodyPost_ret (results_cell_row2 rfl _ _ w.heap.size 27 _ (0, 0) _ (.bool false) rfl rfl ((HC0.out.far3 hne (.string (strB x.1)) (.bool x.2.1) (.string (strB x.2.2))).set3 (.string ByteArray.empty) (.bool false) (.string ByteArray.empty)) Tryd.underlying27 rfl st_size) rfl ?_
        rw [hq]
        exact ⟨rfl, (HK2.out.set3 (.inr hinr) _ _ _).set3 (.inr (Nat.le_refl _)) _ _ _⟩
      | some y =>
        have hxy := HX.out y hq
        simp only [Option.isSome_some]
        have HXY := Lib.hid hxy
        have HQ := Lib.hid hq
        clear hxy hq
        go_wp2_with fail
        refine bodyPost_ret (results_cell_row2 rfl _ _ w.heap.size 27 _ (0, 0) _ (.bool true) rfl rfl ((HC0.out.far3 hne (.string (strB x.1)) (.bool x.2.1) (.string (strB x.2.2))).set3 (.string (strB x.1)) (.bool x.2.1) (.string (strB x.2.2))) Tryd.underlying27 rfl st_size) rfl ?_
        rw [HQ.out, ← HXY.out]
        exact ⟨rfl, (HK2.out.set3 (.inr hinr) _ _ _).set3 (.inr (Nat.le_refl _)) _ _ _⟩
    · have hr : res = none := by rw [← HRES.out, statusL, if_neg h13, if_neg h2]
      have t1 : (proto == 1) = false := by rw [beq_eq_false_iff_ne]; omega
      have t2 : (proto == 2) = false := by rw [beq_eq_false_iff_ne]; omega
      have t3 : (proto == 3) = false := by rw [beq_eq_false_iff_ne]; omega
      have HR := Lib.hid hr
      clear hr HRES h13 h2
      go_wp2_with fail
      refine bodyPost_ret (results_cell_row2 rfl _ _ w.heap.size 27 _ (0, 0) _ (.bool false) rfl rfl HB0.out Tryd.underlying27 rfl st_size) rfl ?_
      rw [HR.out]
      exact ⟨rfl, HK0.out⟩

def CdS (w0 : World) (g : Nat) (ps : List (List UInt8)) (p : List UInt8 → Bool) (b : Bool) (gk : Nat) (v10 : Value) (wr : World) : Prop :=
  ∃ i, i ≤ ps.length ∧ gk = ps.length - i ∧ v10 = .int .i64 (i : Int) ∧ (ps.take i).all (fun x => p x == b) = true ∧ Reads wr (fun k => k = g) (some ⟨g, 0, none⟩) ps.length (strs ps) ∧ Kept w0 wr NoB
theorem all_step {ps : List (List UInt8)} {q : List UInt8 → Bool} {i : Nat} (h : i < ps.length) (h1 : (ps.take i).all q = true) (h2 : q ps[i] = true) : (ps.take (i + 1)).all q = true := by
  rw [List.take_succ_eq_append_getElem h, List.all_append, h1]
  simp [h2]
theorem any_false {ps : List (List UInt8)} {p : List UInt8 → Bool} (h : ps.all (fun x => p x == false) = true) : ps.any p = false := by
  rw [List.any_eq_false]
  intro x hx
  have := List.all_eq_true.1 h x hx
  simp at this
  simp [this]
theorem any_true {ps : List (List UInt8)} {p : List UInt8 → Bool} {i : Nat} (h : i < ps.length) (h2 : p ps[i] = true) : ps.any p = true :=
  List.any_eq_true.2 ⟨ps[i], List.getElem_mem h, h2⟩
theorem all_true {ps : List (List UInt8)} {p : List UInt8 → Bool} (h : ps.all (fun x => p x == true) = true) : ps.all p = true := by
  simpa using h
theorem all_false {ps : List (List UInt8)} {p : List UInt8 → Bool} {i : Nat} (h : i < ps.length) (h2 : p ps[i] = false) : ps.all p = false := by
  cases h3 : ps.all p with
  | false => rfl
  | true => rw [List.all_eq_true.1 h3 _ (List.getElem_mem h)] at h2; cases h2
theorem piece_le {l : List UInt8} {i : Nat} (h : i < (Lib.split l [44]).length) : ((Lib.split l [44])[i]).length ≤ l.length := by
  have hG : ∀ (l cur : List UInt8), ∀ x ∈ splitG cur l, x.length ≤ cur.length + l.length := by
    intro l
    induction l with
    | nil => intro cur x hx; simp [splitG] at hx; subst hx; simp
    | cons c r ih =>
      intro cur x hx
      rw [splitG] at hx
      split at hx
      · rcases List.mem_cons.1 hx with rfl | hx
        · omega
        · have := ih [] x hx; simp at this ⊢; omega
      · have := ih _ x hx; simp at this ⊢; omega
  have := hG l [] ((Lib.split l [44])[i]) (by rw [← split_G]; exact List.getElem_mem h)
  simpa using this
set_option maxHeartbeats 1000000 in
set_option maxRecDepth 100000 in
theorem match_calls (w : World) (l c : List UInt8) (hl : l.length ≤ 1099511627) (hm : MaxI w) :
    Calls Tryd.prog 15 #[.string (strB l), .string (strB c)] w fun en w' => en = .returned (.bool (matchL l c)) ∧ Kept w w' NoB := by
  obtain ⟨res, hres⟩ : ∃ res, matchL l c = res := ⟨_, rfl⟩
  rw [hres]
  have HRES := Lib.hid hres
  clear hres
  go_enter Tryd.func15, Tryd.ntmps15
  go_wp2_with fail
  refine (split_calls w l [44] hl (by decide) hm rfl).mono ?_
  rintro en w2 ⟨rfl, hw2⟩
  have hlen := split_len l [44]
  have hres : (Lib.split l [44]).any (preL c) = res := HRES.out
  obtain ⟨ps, hps⟩ : ∃ ps, Lib.split l [44] = ps := ⟨_, rfl⟩
  rw [hps] at hw2 hlen hres ⊢
  have hR : Reads w2 (fun k => k = w.heap.size) (some ⟨w.heap.size, 0, none⟩) ps.length (strs ps) := by
    rw [hw2]
    have := Reads.lit w 9 (strs ps) _ rfl (0, 0)
    rwa [strs_length] at this
  have hK2 : Kept w w2 NoB := by rw [hw2]; exact (Kept.refl _ _).alloc _
  have HR0 := Lib.hid hres
  clear hw2 HRES hres
  go_wp2_with fail
  go_loopg [6, 10] ps.length (fun gk v6 v10 wr => CdS w w.heap.size ps (preL c) false gk v10 wr)
  case atStart => exact ⟨0, Nat.zero_le _, rfl, rfl, rfl, hR, hK2⟩
  case round =>
    obtain ⟨i, hi, hgk, rfl, hall, hrd, hkr⟩ := hrel
    have HG := Lib.hid hgk
    have HKR := Lib.hid hkr
    have HRD := Lib.hid hrd
    have HALL := Lib.hid hall
    clear hgk hkr hR hK2 hrd hall
    rcases Nat.lt_or_ge i ps.length with hlt | hge
    · obtain ⟨ad, u, hA, hu, hcell⟩ := HRD.out.at_ hlt
      injection hA with hA
      subst hA
      rw [strs_at ps i hlt] at hu
      injection hu with hu
      subst hu
      rw [add_lit0] at hcell
      cases hp : preL c ps[i] with
      | true =>
        have hr : res = true := by rw [← HR0.out]; exact any_true hlt hp
        subst hr
        unfold preL at hp
        simp only [Bool.and_eq_true, Bool.not_eq_true', List.isEmpty_eq_false_iff] at hp
        have hne : (ps[i] == ([] : List UInt8)) = false := beq_eq_false_iff_ne.2 hp.1
        have HP := Lib.hid hp
        clear hp
        go_wp2_with fail
        refine (pref_calls _ c ps[i]).mono ?_
        rw [HP.out.2]
        rintro en w3 ⟨rfl, rfl⟩
        go_wp2_with fail
        go_ret
        exact ⟨rfl, HKR.out⟩
      | false =>
        have hst := all_step (q := fun x => preL c x == false) hlt HALL.out (by simp [hp])
        have HST := Lib.hid hst
        clear hst
        by_cases he : ps[i] = []
        · rw [he] at hcell
          clear hp he
          go_wp2_with fail
          go_roundg (ps.length - (i + 1))
          case measure => have := HG.out; omega
          case rel => exact ⟨i + 1, hlt, rfl, by go_num, HST.out, HRD.out, HKR.out⟩
        · have hne : (ps[i] == ([] : List UInt8)) = false := beq_eq_false_iff_ne.2 he
          have hpf : (ps[i]).isPrefixOf c = false := by
            unfold preL at hp
            cases h3 : (ps[i]).isPrefixOf c with
            | false => rfl
            | true => rw [h3] at hp; simp [he] at hp
          have HPF := Lib.hid hpf
          clear hp he hpf
          go_wp2_with fail
          refine (pref_calls _ c ps[i]).mono ?_
          rw [HPF.out]
          rintro en w3 ⟨rfl, rfl⟩
          go_wp2_with fail
          go_roundg (ps.length - (i + 1))
          case measure => have := HG.out; omega
          case rel => exact ⟨i + 1, hlt, rfl, by go_num, HST.out, HRD.out, HKR.out⟩
    · obtain rfl : i = ps.length := by omega
      have hr : res = false := by
        rw [← HR0.out]
        refine any_false ?_
        have := HALL.out
        rwa [List.take_length] at this
      subst hr
      go_wp2_with fail
      go_ret
      exact ⟨rfl, HKR.out⟩
end Go.Proofs.YtncoappagcameaaDoor
