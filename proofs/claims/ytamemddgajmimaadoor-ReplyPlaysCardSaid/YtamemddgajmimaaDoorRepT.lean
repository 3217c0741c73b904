/- Replies: the reference's status of a line. -/
import Derived.Test.YtamemddgajmimaaDoorRepX
set_option linter.unusedVariables false
set_option linter.unusedSimpArgs false
namespace Go.Proofs.YtamemddgajmimaaDoor
open Go.RowKit Go.Shelf

theorem refDigit_calls (w : World) (c : UInt8) :
    Calls Tryd.prog 29 #[.int .u8 (c.toNat : Int)] w fun en w' => en = .returned (.bool (dgC c)) ∧ w' = w := by
  obtain ⟨x, hx⟩ : ∃ x : Nat, c.toNat = x := ⟨_, rfl⟩
  unfold dgC
  rw [hx]
  go_enter Tryd.func29, Tryd.ntmps29
  by_cases h1 : 48 ≤ x
  · have t1 : (48 : Int) ≤ (x : Int) := by omega
    by_cases h2 : x ≤ 57
    · have t2 : (x : Int) ≤ 57 := by omega
      have e : decide (48 ≤ x ∧ x ≤ 57) = true := decide_eq_true ⟨h1, h2⟩
      rw [e]
      go_wp2_with fail
      go_ret
      exact ⟨rfl, rfl⟩
    · have t2 : ¬ (x : Int) ≤ 57 := by omega
      have e : decide (48 ≤ x ∧ x ≤ 57) = false := decide_eq_false (by omega)
      rw [e]
      go_wp2_with fail
      go_ret
      exact ⟨rfl, rfl⟩
  · have t1 : ¬ (48 : Int) ≤ (x : Int) := by omega
    have e : decide (48 ≤ x ∧ x ≤ 57) = false := decide_eq_false (by omega)
    rw [e]
    go_wp2_with fail
    go_ret
    exact ⟨rfl, rfl⟩
def rsR (r : Option (List UInt8)) : Value := .tuple #[.string (strB (r.getD [])), .bool r.isSome]
def restT : List UInt8 → Option (List UInt8)
  | [] => some []
  | c :: t => if c = 32 then some t else none
set_option maxHeartbeats 1000000 in
set_option maxRecDepth 100000 in
theorem refRest_calls (w : World) (s b : List UInt8) (hs : s.length ≤ 1099511627776) (hb : b.length ≤ 16) {B : ByteArray} (hB : strB b = B) :
    Calls Tryd.prog 28 #[.string (strB s), .string B] w fun en w' => en = .returned (rsR (restL s b)) ∧ w' = w := by
  subst hB
  obtain ⟨res, hres⟩ : ∃ res, restL s b = res := ⟨_, rfl⟩
  rw [hres]
  have HRES := Lib.hid hres
  clear hres
  go_enter Tryd.func28, Tryd.ntmps28
  by_cases hp : b.isPrefixOf s = true
  · obtain ⟨t, rfl⟩ := List.isPrefixOf_iff_prefix.1 hp
    have e1 := strB_cut (b ++ t) 0 b.length
    simp only [List.drop_zero, Nat.sub_zero, List.take_left] at e1
    have hsz : b.length ≤ (strB (b ++ t)).size := by rw [strB_size, List.length_append]; omega
    have hle : (strB (b ++ t)).size = b.length + t.length := by rw [strB_size, List.length_append]
    have hr0 : res = restT t := by
      rw [← HRES.out]
      unfold restL
      rw [if_pos hp, List.drop_left]
      rfl
    have HR := Lib.hid hr0
    have hbt : b.length + t.length ≤ 1099511627776 := by rw [← List.length_append]; exact hs
    have q1 : ¬ ((b.length : Int) + (t.length : Int) < (b.length : Int)) := by omega
    clear hp hr0 HRES hs
    cases t with
    | nil =>
      have hr : res = some [] := HR.out
      subst hr
      have q2 : ((b.length : Int) + (([] : List UInt8).length : Int) == (b.length : Int)) = true := by simp
      simp only [List.length_nil, Int.natCast_zero, Int.add_zero] at q1 q2
      rw [List.append_nil] at e1
      go_wp2_with fail
      go_ret2
      exact ⟨rfl, rfl⟩
    | cons c t =>
      have e2 := strB_cut (b ++ c :: t) (b.length + 1) (b.length + (t.length + 1))
      rw [show (List.drop (b.length + 1) (b ++ c :: t)).take (b.length + (t.length + 1) - (b.length + 1)) = t by
        rw [show b.length + (t.length + 1) - (b.length + 1) = t.length by omega, show b ++ c :: t = (b ++ [c]) ++ t by simp, List.drop_left' (by simp)]
        simp] at e2
      obtain ⟨x, hx⟩ : ∃ x : Nat, c.toNat = x := ⟨_, rfl⟩
      have hix : ∀ h, ((strB (b ++ c :: t))[b.length]'h).toNat = x := fun h => by rw [strB_getI]; simp [hx]
      have HIX := hix (by rw [strB_size]; simp)
      have q2 : ((b.length : Int) + ((t.length : Int) + 1) == (b.length : Int)) = false := by rw [beq_eq_false_iff_ne]; omega
      simp only [List.length_cons] at hbt q1 hle
      have q3 : b.length < b.length + (t.length + 1) := by omega
      by_cases h32 : x = 32
      · have hr : res = some t := by
          rw [HR.out]
          simp [restT, show c = 32 from UInt8.toNat_inj.1 (by rw [hx, h32]; rfl)]
        subst h32 hr
        clear HR hx hix
        go_wp2_with fail
        go_ret2
        exact ⟨rfl, rfl⟩
      · have hr : res = none := by
          rw [HR.out]
          have : c ≠ 32 := fun e => h32 (by rw [← hx, e]; rfl)
          simp [restT, this]
        have t32 : ((x : Int) == 32) = false := by rw [beq_eq_false_iff_ne]; omega
        subst hr
        clear HR hx hix h32
        go_wp2_with fail
        go_ret2
        exact ⟨rfl, rfl⟩
  · have hr : res = none := by
      rw [← HRES.out]
      unfold restL
      rw [if_neg hp]
    subst hr
    by_cases h1 : s.length < b.length
    · have q1 : (s.length : Int) < (b.length : Int) := by omega
      clear hp
      go_wp2_with fail
      go_ret2
      exact ⟨rfl, rfl⟩
    · have q1 : ¬ (s.length : Int) < (b.length : Int) := by omega
      have e1 := strB_cut s 0 b.length
      simp only [List.drop_zero, Nat.sub_zero] at e1
      have hne : s.take b.length ≠ b := fun e => hp (List.isPrefixOf_iff_prefix.2 (List.prefix_iff_eq_take.2 e.symm))
      obtain ⟨u, hu⟩ : ∃ u, s.take b.length = u := ⟨_, rfl⟩
      rw [hu] at e1 hne
      have q2 : (u == b) = false := beq_eq_false_iff_ne.2 hne
      have hsz : b.length ≤ s.length := by omega
      clear hp hu hne
      go_wp2_with fail
      go_ret2
      exact ⟨rfl, rfl⟩

theorem statusP (s : List UInt8) : statusL 2 s = match restL s [43, 79, 75] with
  | some t => some ([43], false, t)
  | none =>
    match restL s [45, 69, 82, 82] with
    | some t => some ([45], false, t)
    | none =>
      match restL s [43] with
      | some t => some ([62], false, t)
      | none => none := by
  rw [statusL, if_neg (by omega), if_pos rfl, ← signed_ref]
  rfl
theorem rsR_some (t : List UInt8) : rsR (some t) = .tuple #[.string (strB t), .bool true] := rfl
theorem rsR_none : rsR none = .tuple #[.string ByteArray.empty, .bool false] := rfl
set_option maxHeartbeats 2000000 in
set_option maxRecDepth 100000 in
theorem refStatus2_calls (w : World) (s : List UInt8) (hl : s.length ≤ 1099511627776) :
    Calls Tryd.prog 21 #[.int .i64 2, .string (strB s)] w fun en w' => en = .returned (stR (statusL 2 s)) ∧ Kept w w' NoB := by
  have HR := Lib.hid (statusP s)
  obtain ⟨res, hres⟩ : ∃ res, statusL 2 s = res := ⟨_, rfl⟩
  rw [hres] at HR ⊢
  clear hres
  go_enter Tryd.func21, Tryd.ntmps21
  go_wp2_with fail
  refine (refRest_calls _ s [43, 79, 75] hl (by decide) rfl).mono ?_
  cases h1 : restL s [43, 79, 75] with
  | some t =>
    have hr : res = some ([43], false, t) := by rw [HR.out, h1]
    rw [rsR_some]
    rintro en w1 ⟨rfl, rfl⟩
    subst hr
    clear h1
    go_wp2_with fail
    refine bodyPost_ret (results_cell_row2 rfl _ _ w.heap.size 54 _ (0, 0) _ (.bool true) rfl rfl (Blk.new w 54 #[.string (strB [43]), .bool false, .string (strB t)]) Tryd.underlying54 rfl st_size) rfl ?_
    exact ⟨rfl, ((Kept.refl _ _).alloc _)⟩
  | none =>
    rw [rsR_none]
    rintro en w1 ⟨rfl, rfl⟩
    have H1 := Lib.hid h1
    clear h1
    go_wp2_with fail
    refine (refRest_calls _ s [45, 69, 82, 82] hl (by decide) rfl).mono ?_
    cases h1 : restL s [45, 69, 82, 82] with
    | some t =>
      have hr : res = some ([45], false, t) := by rw [HR.out, H1.out, h1]
      rw [rsR_some]
      rintro en w1 ⟨rfl, rfl⟩
      subst hr
      clear h1
      go_wp2_with fail
      refine bodyPost_ret (results_cell_row2 rfl _ _ w.heap.size 54 _ (0, 0) _ (.bool true) rfl rfl (Blk.new w 54 #[.string (strB [45]), .bool false, .string (strB t)]) Tryd.underlying54 rfl st_size) rfl ?_
      exact ⟨rfl, ((Kept.refl _ _).alloc _)⟩
    | none =>
      rw [rsR_none]
      rintro en w1 ⟨rfl, rfl⟩
      have H2 := Lib.hid h1
      clear h1
      go_wp2_with fail
      refine (refRest_calls _ s [43] hl (by decide) rfl).mono ?_
      cases h1 : restL s [43] with
      | some t =>
        have hr : res = some ([62], false, t) := by rw [HR.out, H1.out, H2.out, h1]
        rw [rsR_some]
        rintro en w1 ⟨rfl, rfl⟩
        subst hr
        clear h1
        go_wp2_with fail
        refine bodyPost_ret (results_cell_row2 rfl _ _ w.heap.size 54 _ (0, 0) _ (.bool true) rfl rfl (Blk.new w 54 #[.string (strB [62]), .bool false, .string (strB t)]) Tryd.underlying54 rfl st_size) rfl ?_
        exact ⟨rfl, ((Kept.refl _ _).alloc _)⟩
      | none =>
        have hr : res = none := by rw [HR.out, H1.out, H2.out, h1]
        rw [rsR_none]
        rintro en w1 ⟨rfl, rfl⟩
        subst hr
        clear h1
        go_wp2_with fail
        refine bodyPost_ret (results_cell_row2 rfl _ _ w.heap.size 54 _ (0, 0) _ (.bool false) rfl rfl (Blk.new w 54 #[.string ByteArray.empty, .bool false, .string ByteArray.empty]) Tryd.underlying54 rfl st_size) rfl ?_
        exact ⟨rfl, ((Kept.refl _ _).alloc _)⟩
theorem fst_dg {c : UInt8} (h : fstC c = true) : dgC c = true := by
  unfold fstC at h
  unfold dgC
  simp only [decide_eq_true_eq] at h ⊢
  omega
theorem numbered3 (a b c : UInt8) (r : List UInt8) : numberedL (a :: b :: c :: r) = if (fstC a && (dgC b && dgC c)) = true then tailV [a, b, c] r else none := by
  unfold numberedL
  simp only [List.take_succ_cons, List.take_zero, List.drop_succ_cons, List.drop_zero, numL, List.all_cons, List.all_nil, Bool.and_true]
  have e : (fstC a && (dgC a && (dgC b && dgC c))) = (fstC a && (dgC b && dgC c)) := by
    cases h : fstC a with
    | false => rfl
    | true => rw [fst_dg h]; rfl
  rw [e]
  simp
set_option maxHeartbeats 2000000 in
set_option maxRecDepth 100000 in
theorem refStatus1_calls (w : World) (proto : Int) (s : List UInt8) (hp : ¬ proto = 2) (hl : s.length ≤ 1099511627776) :
    Calls Tryd.prog 21 #[.int .i64 proto, .string (strB s)] w fun en w' => en = .returned (stR (statusL proto s)) ∧ Kept w w' NoB := by
  obtain ⟨res, hres⟩ : ∃ res, statusL proto s = res := ⟨_, rfl⟩
  rw [hres]
  have HRES := Lib.hid hres
  have p2 : (proto == 2) = false := beq_eq_false_iff_ne.2 hp
  clear hres
  go_enter Tryd.func21, Tryd.ntmps21
  by_cases h13 : proto = 1 ∨ proto = 3
  · have hnum : res = numberedL s := by rw [← HRES.out, statusL, if_pos h13]
    have HN := Lib.hid hnum
    clear hnum HRES p2 hp
    match s, hl, HN with
    | a :: b :: c :: r, hl, HN =>
      have hres : res = if (fstC a && (dgC b && dgC c)) = true then tailV [a, b, c] r else none := by rw [HN.out, numbered3]
      have HR := Lib.hid hres
      have q0 : ¬ ((r.length : Int) + 1 + 1 + 1 < 3) := by omega
      have hrl : r.length ≤ 1099511627776 := by simp at hl; omega
      clear hres HN
      obtain ⟨x, hx⟩ : ∃ x : Nat, a.toNat = x := ⟨_, rfl⟩
      have hix : ((strB (a :: b :: c :: r))[0]'(by rw [strB_size]; simp)).toNat = x := hx
      have hiy : ((strB (a :: b :: c :: r))[1]'(by rw [strB_size]; simp)).toNat = b.toNat := rfl
      have hiz : ((strB (a :: b :: c :: r))[2]'(by rw [strB_size]; simp)).toNat = c.toNat := rfl
      have hfs : fstC a = decide (49 ≤ x ∧ x ≤ 53) := by unfold fstC; rw [hx]
      have HFS := Lib.hid hfs
      clear hfs hx
      by_cases a1 : 49 ≤ x
      · have b1 : ¬ ((x : Int) < 49) := by omega
        by_cases a2 : x ≤ 53
        · have b2 : ¬ (53 < (x : Int)) := by omega
          have hr : res = if (dgC b && dgC c) = true then tailV [a, b, c] r else none := by rw [HR.out, HFS.out, decide_eq_true ⟨a1, a2⟩]; rfl
          have HR' := Lib.hid hr
          clear hr HR HFS a1 a2
          obtain ⟨d1, hd1⟩ : ∃ d, dgC b = d := ⟨_, rfl⟩
          obtain ⟨d2, hd2⟩ : ∃ d, dgC c = d := ⟨_, rfl⟩
          rw [hd1, hd2] at HR'
          have HD1 := Lib.hid hd1
          have HD2 := Lib.hid hd2
          clear hd1 hd2
          have e1 := strB_cut (a :: b :: c :: r) 0 3
          simp only [List.drop_zero, Nat.sub_zero, List.take_succ_cons, List.take_zero] at e1
          rcases h13 with rfl | rfl
          all_goals
            go_wp2_with fail
            refine (refDigit_calls _ b).mono ?_
            rw [HD1.out]
            rintro en w1 ⟨rfl, rfl⟩
            cases d1 with
            | false =>
              have hr : res = none := HR'.out
              subst hr
              go_wp2_with fail
              refine bodyPost_ret (results_cell_row2 rfl _ _ w.heap.size 54 _ (0, 0) _ (.bool false) rfl rfl (Blk.new w 54 #[.string ByteArray.empty, .bool false, .string ByteArray.empty]) Tryd.underlying54 rfl st_size) rfl ?_
              exact ⟨rfl, ((Kept.refl _ _).alloc _)⟩
            | true =>
              go_wp2_with fail
              refine (refDigit_calls _ c).mono ?_
              rw [HD2.out]
              rintro en w1 ⟨rfl, rfl⟩
              cases d2 with
              | false =>
                have hr : res = none := HR'.out
                subst hr
                go_wp2_with fail
                refine bodyPost_ret (results_cell_row2 rfl _ _ w.heap.size 54 _ (0, 0) _ (.bool false) rfl rfl (Blk.new w 54 #[.string ByteArray.empty, .bool false, .string ByteArray.empty]) Tryd.underlying54 rfl st_size) rfl ?_
                exact ⟨rfl, ((Kept.refl _ _).alloc _)⟩
              | true =>
                have hr : res = tailV [a, b, c] r := HR'.out
                clear HR'
                cases r with
                | nil =>
                  have hr : res = some ([a, b, c], false, []) := hr
                  subst hr
                  go_wp2_with fail
                  refine bodyPost_ret (results_cell_row2 rfl _ _ w.heap.size 54 _ (0, 0) _ (.bool true) rfl rfl (Blk.new w 54 #[.string (strB [a, b, c]), .bool false, .string ByteArray.empty]) Tryd.underlying54 rfl st_size) rfl ?_
                  exact ⟨rfl, ((Kept.refl _ _).alloc _)⟩
                | cons d t =>
                  have e2 := strB_cut (a :: b :: c :: d :: t) 4 (t.length + 1 + 1 + 1 + 1)
                  rw [show (List.drop 4 (a :: b :: c :: d :: t)).take (t.length + 1 + 1 + 1 + 1 - 4) = t by simp] at e2
                  obtain ⟨y, hy⟩ : ∃ y : Nat, d.toNat = y := ⟨_, rfl⟩
                  have hiw : ((strB (a :: b :: c :: d :: t))[3]'(by rw [strB_size]; simp)).toNat = y := hy
                  have t3 : ((t.length : Int) + 1 + 1 + 1 + 1 == 3) = false := by rw [beq_eq_false_iff_ne]; omega
                  by_cases h45 : y = 45
                  · have hr : res = some ([a, b, c], true, t) := by
                      rw [hr]
                      simp [tailV, show d = 45 from UInt8.toNat_inj.1 (by rw [hy, h45]; rfl)]
                    subst h45 hr
                    clear hy
                    go_wp2_with fail
                    go_region
                    go_wp2_with fail
                    refine bodyPost_ret (results_cell_row2 rfl _ _ w.heap.size 54 _ (0, 0) _ (.bool true) rfl rfl (Blk.new w 54 #[.string (strB [a, b, c]), .bool true, .string (strB t)]).drew Tryd.underlying54 rfl st_size) rfl ?_
                    exact ⟨rfl, ((Kept.refl _ _).alloc _).drew⟩
                  · by_cases h32 : y = 32
                    · have hr : res = some ([a, b, c], false, t) := by
                        rw [hr]
                        simp [tailV, show d = 32 from UInt8.toNat_inj.1 (by rw [hy, h32]; rfl)]
                      subst h32 hr
                      clear hy h45
                      go_wp2_with fail
                      go_region
                      go_wp2_with fail
                      refine bodyPost_ret (results_cell_row2 rfl _ _ w.heap.size 54 _ (0, 0) _ (.bool true) rfl rfl (Blk.new w 54 #[.string (strB [a, b, c]), .bool false, .string (strB t)]).drew Tryd.underlying54 rfl st_size) rfl ?_
                      exact ⟨rfl, ((Kept.refl _ _).alloc _).drew⟩
                    · have hr : res = none := by
                        rw [hr]
                        have h1 : d ≠ 45 := fun e => h45 (by rw [← hy, e]; rfl)
                        have h2 : d ≠ 32 := fun e => h32 (by rw [← hy, e]; rfl)
                        simp [tailV, h1, h2]
                      have t45 : ((y : Int) == 45) = false := by rw [beq_eq_false_iff_ne]; omega
                      have t32 : ((y : Int) == 32) = false := by rw [beq_eq_false_iff_ne]; omega
                      have m45 : ((y : Int) != 45) = true := by rw [bne_iff_ne]; omega
                      have m32 : ((y : Int) != 32) = true := by rw [bne_iff_ne]; omega
                      subst hr
                      clear hy
                      go_wp2_with fail
                      refine bodyPost_ret (results_cell_row2 rfl _ _ w.heap.size 54 _ (0, 0) _ (.bool false) rfl rfl (Blk.new w 54 #[.string ByteArray.empty, .bool false, .string ByteArray.empty]) Tryd.underlying54 rfl st_size) rfl ?_
                      exact ⟨rfl, ((Kept.refl _ _).alloc _)⟩
        · have b2 : (53 < (x : Int)) := by omega
          have hr : res = none := by rw [HR.out, HFS.out, decide_eq_false (by omega)]; rfl
          subst hr
          rcases h13 with rfl | rfl
          all_goals
            go_wp2_with fail
            refine bodyPost_ret (results_cell_row2 rfl _ _ w.heap.size 54 _ (0, 0) _ (.bool false) rfl rfl (Blk.new w 54 #[.string ByteArray.empty, .bool false, .string ByteArray.empty]) Tryd.underlying54 rfl st_size) rfl ?_
            exact ⟨rfl, ((Kept.refl _ _).alloc _)⟩
      · have b1 : ((x : Int) < 49) := by omega
        have hr : res = none := by rw [HR.out, HFS.out, decide_eq_false (by omega)]; rfl
        subst hr
        rcases h13 with rfl | rfl
        all_goals
          go_wp2_with fail
          refine bodyPost_ret (results_cell_row2 rfl _ _ w.heap.size 54 _ (0, 0) _ (.bool false) rfl rfl (Blk.new w 54 #[.string ByteArray.empty, .bool false, .string ByteArray.empty]) Tryd.underlying54 rfl st_size) rfl ?_
          exact ⟨rfl, ((Kept.refl _ _).alloc _)⟩
    | [], _, HN =>
      have hr : res = none := by rw [HN.out]; simp [numberedL]
      subst hr
      rcases h13 with rfl | rfl
      all_goals
        go_wp2_with fail
        refine bodyPost_ret (results_cell_row2 rfl _ _ w.heap.size 54 _ (0, 0) _ (.bool false) rfl rfl (Blk.new w 54 #[.string ByteArray.empty, .bool false, .string ByteArray.empty]) Tryd.underlying54 rfl st_size) rfl ?_
        exact ⟨rfl, ((Kept.refl _ _).alloc _)⟩
    | [a], _, HN =>
      have hr : res = none := by rw [HN.out]; simp [numberedL]
      subst hr
      rcases h13 with rfl | rfl
      all_goals
        go_wp2_with fail
        refine bodyPost_ret (results_cell_row2 rfl _ _ w.heap.size 54 _ (0, 0) _ (.bool false) rfl rfl (Blk.new w 54 #[.string ByteArray.empty, .bool false, .string ByteArray.empty]) Tryd.underlying54 rfl st_size) rfl ?_
        exact ⟨rfl, ((Kept.refl _ _).alloc _)⟩
    | [a, b], _, HN =>
      have hr : res = none := by rw [HN.out]; simp [numberedL]
      subst hr
      rcases h13 with rfl | rfl
      all_goals
        go_wp2_with fail
        refine bodyPost_ret (results_cell_row2 rfl _ _ w.heap.size 54 _ (0, 0) _ (.bool false) rfl rfl (Blk.new w 54 #[.string ByteArray.empty, .bool false, .string ByteArray.empty]) Tryd.underlying54 rfl st_size) rfl ?_
        exact ⟨rfl, ((Kept.refl _ _).alloc _)⟩
  · have e1 : (proto == 1) = false := by rw [beq_eq_false_iff_ne]; omega
    have e3 : (proto == 3) = false := by rw [beq_eq_false_iff_ne]; omega
    have n1 : ¬ proto = 1 := by omega
    have n3 : ¬ proto = 3 := by omega
    have hr : res = none := by rw [← HRES.out, statusL, if_neg h13, if_neg hp]
    subst hr
    clear h13 hp
    go_wp2_with fail
    refine bodyPost_ret (results_cell_row2 rfl _ _ w.heap.size 54 _ (0, 0) _ (.bool false) rfl rfl (Blk.new w 54 #[.string ByteArray.empty, .bool false, .string ByteArray.empty]) Tryd.underlying54 rfl st_size) rfl ?_
    exact ⟨rfl, ((Kept.refl _ _).alloc _)⟩
theorem refStatus_calls (w : World) (proto : Int) (s : List UInt8) (hl : s.length ≤ 1099511627776) :
    Calls Tryd.prog 21 #[.int .i64 proto, .string (strB s)] w fun en w' => en = .returned (stR (statusL proto s)) ∧ Kept w w' NoB := by
  by_cases h : proto = 2
  · subst h
    exact refStatus2_calls w s hl
  · exact refStatus1_calls w proto s h hl

end Go.Proofs.YtamemddgajmimaaDoor
