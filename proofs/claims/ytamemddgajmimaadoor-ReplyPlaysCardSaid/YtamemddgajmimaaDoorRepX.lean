/- Replies: digits, rows of texts, comparisons, of the reference. -/
import Derived.Test.YtamemddgajmimaaDoorRepS
import Derived.BigQuiet
set_option linter.unusedVariables false
set_option linter.unusedSimpArgs false
namespace Go.Proofs.YtamemddgajmimaaDoor
open Go.RowKit Go.Shelf

def SameR (w0 : World) (xs ys : List (List UInt8)) (gk : Nat) (i : Value) (wr : World) : Prop :=
  ∃ k m, k ≤ xs.length ∧ gk = xs.length - k ∧ i = .int .i64 (k : Int) ∧ wr = w0.drewN m ∧ xs.take k = ys.take k
set_option maxHeartbeats 1000000 in
set_option maxRecDepth 100000 in
theorem sameD_calls (w : World) (S T : Nat → Prop) (A B : Option Addr) (n c n' c' : Nat) (xs ys : List (List UInt8)) (hx : Reads w S A n (strs xs)) (hy : Reads w T B n' (strs ys)) (hn : n ≤ 140737488355328) (hn' : n' ≤ 140737488355328) :
    Calls Tryd.prog 17 #[.slice A n c, .slice B n' c'] w fun en w' => en = .returned (.bool (decide (xs = ys))) ∧ ∃ m, w' = w.drewN m := by
  have hxl : xs.length = n := by have := hx.1; rwa [strs_length] at this
  have hyl : ys.length = n' := by have := hy.1; rwa [strs_length] at this
  by_cases hne : n = n'
  · subst hne
    have X := Lib.hid hx
    have Y := Lib.hid hy
    have L := Lib.hid (And.intro hxl hyl)
    have hnn : ((n : Int) != (n : Int)) = false := by simp
    clear hx hy hxl hyl
    go_enter Tryd.func17, Tryd.ntmps17
    go_wp2
    go_loopg [5] xs.length (fun gk i wr => SameR w xs ys gk i wr)
    case atStart => exact ⟨0, 0, Nat.zero_le _, rfl, rfl, rfl, rfl⟩
    case round =>
      obtain ⟨k, m, hk, hgk, rfl, rfl, ht⟩ := hrel
      have G := Lib.hid (And.intro hgk ht)
      clear hgk ht
      rcases Nat.lt_or_ge k n with hlt | hge
      · obtain ⟨ad, u, hA, hu, hc1⟩ := X.out.at_ hlt
        obtain ⟨bd, v, hB, hv, hc2⟩ := Y.out.at_ hlt
        subst hA
        subst hB
        have hkx : k < xs.length := by rw [L.out.1]; exact hlt
        have hky : k < ys.length := by rw [L.out.2]; exact hlt
        rw [strs_at _ _ hkx] at hu
        rw [strs_at _ _ hky] at hv
        injection hu with hu
        injection hv with hv
        subst hu
        subst hv
        obtain ⟨p, hp⟩ : ∃ p, xs[k] = p := ⟨_, rfl⟩
        obtain ⟨q, hq⟩ : ∃ q, ys[k] = q := ⟨_, rfl⟩
        rw [hp] at hc1
        rw [hq] at hc2
        have PQ := Lib.hid (And.intro hp hq)
        clear hp hq
        by_cases he : p = q
        · have hb : (p == q) = true := by simp [he]
          have E := Lib.hid he
          clear he
          go_wp2
          go_quiet (fail)
          go_wp2
          go_roundg (n - (k + 1))
          case measure => have := G.out.1; have := L.out.1; omega
          case rel =>
            refine ⟨k + 1, m + nq, by omega, by have := L.out.1; omega, by go_num, by first | rfl | rw [World.drewN_drewN], ?_⟩
            rw [List.take_succ_eq_append_getElem hkx, List.take_succ_eq_append_getElem hky, G.out.2, PQ.out.1, PQ.out.2, E.out]
        · have hb : (p == q) = false := by simp [he]
          have E := Lib.hid he
          clear he
          go_wp2
          go_quiet (fail)
          go_wp2
          go_ret
          refine ⟨?_, by first | exact ⟨_, rfl⟩ | exact ⟨_, World.drewN_drewN _ _ _⟩⟩
          have : ¬ xs = ys := by
            rintro rfl
            exact E.out (PQ.out.1.symm.trans PQ.out.2)
          simp [this]
      · go_wp2
        go_ret
        refine ⟨?_, _, rfl⟩
        have h1 := G.out.2
        rw [List.take_of_length_le (by rw [L.out.1]; exact hge), List.take_of_length_le (by rw [L.out.2]; exact hge)] at h1
        simp [h1]
  · have hnn : ((n : Int) != (n' : Int)) = true := by simp; omega
    have hxy : ¬ xs = ys := by rintro rfl; omega
    have H := Lib.hid hxy
    clear hxy hx hy hxl hyl
    go_enter Tryd.func17, Tryd.ntmps17
    go_wp2
    go_ret
    exact ⟨by simp [H.out], 0, rfl⟩


theorem same_calls (w : World) (S T : Nat → Prop) (A B : Option Addr) (n c n' c' : Nat) (xs ys : List (List UInt8)) (hx : Reads w S A n (strs xs)) (hy : Reads w T B n' (strs ys)) (hn : n ≤ 140737488355328) (hn' : n' ≤ 140737488355328) :
    Calls Tryd.prog 17 #[.slice A n c, .slice B n' c'] w fun en w' => en = .returned (.bool (decide (xs = ys))) ∧ Kept w w' NoB := by
  refine (sameD_calls w S T A B n c n' c' xs ys hx hy hn hn').mono ?_
  rintro en w' ⟨he, m, rfl⟩
  exact ⟨he, (Kept.refl _ _).drewN m⟩
set_option maxHeartbeats 1000000 in
set_option maxRecDepth 100000 in
theorem same11_calls (w : World) (S T : Nat → Prop) (A B : Option Addr) (n k n' k' : Nat) (xs ys : List (List UInt8)) (c d : List UInt8) (hx : Reads w S A n (strs xs)) (hy : Reads w T B n' (strs ys)) (hn : n ≤ 140737488355328) (hn' : n' ≤ 140737488355328) :
    Calls Tryd.prog 14 #[.agg #[.string (strB c), .slice A n k, .slice none 0 0], .agg #[.string (strB d), .slice B n' k', .slice none 0 0]] w fun en w' => en = .returned (.bool (decide (xs = ys) && (c == d))) ∧ Kept w w' NoB := by
  have kc := fun (W : World) => run_convert_bytes_nil (P := Tryd.prog) W 28 5 Tryd.underlying28 Tryd.underlying5 0 0 9 Tryd.underlying9
  obtain ⟨q, hq⟩ : ∃ q, decide (xs = ys) = q := ⟨_, rfl⟩
  obtain ⟨e, he⟩ : ∃ e, (c == d) = e := ⟨_, rfl⟩
  rw [hq, he]
  have HQ := Lib.hid hq
  have HX := Lib.hid hx
  have HY := Lib.hid hy
  clear hq hx hy
  go_enter Tryd.func14, Tryd.ntmps14
  go_wp2_with fail
  have hk0 := (((Kept.refl w NoB).alloc (.cells #[.string (strB c), .slice A n k, .slice none 0 0] 30)).alloc (.cells #[.string (strB d), .slice B n' k', .slice none 0 0] 30))
  have HK0 := Lib.hid hk0
  have hb1 := ((Blk.new w 30 #[.string (strB c), .slice A n k, .slice none 0 0]).alloc (.cells #[.string (strB d), .slice B n' k', .slice none 0 0] 30))
  have hb2 := Blk.new (w.alloc (.cells #[.string (strB c), .slice A n k, .slice none 0 0] 30)) 30 #[.string (strB d), .slice B n' k', .slice none 0 0]
  rw [World.size_alloc] at hb2
  have HB1 := Lib.hid hb1
  have HB2 := Lib.hid hb2
  clear hk0 hb1 hb2
  refine (same_calls _ S T A B n k n' k' xs ys (HX.out.kept0 HK0.out) (HY.out.kept0 HK0.out) hn hn').mono ?_
  rw [HQ.out]
  rintro en w1 ⟨rfl, hk1⟩
  have HK1 := Lib.hid (HK0.out.trans' hk1)
  obtain ⟨a0, a1, a2, _, _, _⟩ := (HB1.out.kept0 hk1).cells3
  obtain ⟨b0, b1, b2, _, _, _⟩ := (HB2.out.kept0 hk1).cells3
  clear hk1
  cases q
  · go_wp2_with fail
    go_ret
    exact ⟨rfl, HK1.out⟩
  · cases e
    · go_wp2_with fail
      go_ret
      exact ⟨rfl, HK1.out⟩
    · go_wp2_with fail
      go_ret
      exact ⟨rfl, HK1.out⟩

/-! ### At most forty lines, of two hundred bytes -/
def few40 (ls : List (List UInt8)) : List (List UInt8) := (ls.take 40).map (fun x => x.take 200)
theorem few40_len (ls : List (List UInt8)) : (few40 ls).length ≤ 40 := by unfold few40; rw [List.length_map, List.length_take]; omega
theorem few40_el (ls : List (List UInt8)) : ∀ x ∈ few40 ls, x.length ≤ 200 := by
  intro x hx
  unfold few40 at hx
  obtain ⟨y, _, rfl⟩ := List.mem_map.1 hx
  rw [List.length_take]
  omega
def ShrtS (w0 : World) (ls : List (List UInt8)) (gk : Nat) (v3 v4 : Value) (wr : World) : Prop :=
  ∃ i, i ≤ ls.length ∧ i ≤ 40 ∧ gk = 41 - i ∧ v4 = .int .i64 (i : Int) ∧ Row wr 9 (fun b => w0.heap.size ≤ b) v3 (strs ((ls.take i).map (fun x => x.take 200))) ∧ Kept w0 wr NoB
theorem few_snoc {ls : List (List UInt8)} {i : Nat} (h : i < ls.length) : (ls.take (i + 1)).map (fun x => x.take 200) = (ls.take i).map (fun x => x.take 200) ++ [ls[i].take 200] := by
  rw [List.take_succ_eq_append_getElem h, List.map_append]
  rfl
set_option maxHeartbeats 2000000 in
set_option maxRecDepth 100000 in
theorem short_calls (w : World) (S : Nat → Prop) (A : Option Addr) (n c : Nat) (ls : List (List UInt8)) (hA : Reads w S A n (strs ls)) (hn : n ≤ 9223372036854775807) (hel : ∀ x ∈ ls, x.length ≤ 9223372036854775807) :
    Calls Tryd.prog 11 #[.slice A n c] w fun en w' => ∃ v, en = .returned v ∧ Row w' 9 (fun b => w.heap.size ≤ b) v (strs (few40 ls)) ∧ Kept w w' NoB := by
  have hln : ls.length = n := by have := hA.1; rwa [strs_length] at this
  have HLN := Lib.hid hln
  have HA := Lib.hid hA
  have HEL := Lib.hid hel
  clear hln hA hel
  go_enter Tryd.func11, Tryd.ntmps11
  go_wp2_with fail
  go_loopg [3, 4] 41 (fun gk v3 v4 wr => ShrtS w ls gk v3 v4 wr)
  case atStart => exact ⟨0, Nat.zero_le _, by omega, by omega, rfl, Row.made0 _ _ _ (Nat.le_refl _), (Kept.refl _ _).alloc _⟩
  case round =>
    obtain ⟨i, hi, hi40, hgk, rfl, hrow, hkr⟩ := hrel
    have HG := Lib.hid hgk
    have HKR := Lib.hid hkr
    have HSZ := hkr.size
    rw [HLN.out] at hi
    clear hgk hkr
    by_cases hgo : i < n ∧ i < 40
    · obtain ⟨hlt, h40⟩ := hgo
      have hil : i < ls.length := by rw [HLN.out]; exact hlt
      obtain ⟨ad, u, hAd, hu, hcell⟩ := (HA.out.kept0 HKR.out).at_ hlt
      subst hAd
      rw [strs_at ls i hil] at hu
      injection hu with hu
      subst hu
      have hsn := few_snoc hil
      have hxl := HEL.out ls[i] (List.getElem_mem hil)
      obtain ⟨x, hx⟩ : ∃ x, ls[i] = x := ⟨_, rfl⟩
      rw [hx] at hcell hsn hxl
      have HSN := Lib.hid hsn
      obtain ⟨out, hout⟩ : ∃ o, (ls.take i).map (fun x => x.take 200) = o := ⟨_, rfl⟩
      rw [hout] at hrow HSN
      have hol : out.length ≤ 40 := by rw [← hout, List.length_map, List.length_take]; omega
      have t1 : (i : Int) < (n : Int) := by omega
      have t2 : (i : Int) < 40 := by omega
      clear hx hsn hout
      by_cases h200 : (200 : Int) < (x.length : Int)
      · have he := strB_cut x 0 200
        simp only [List.drop_zero, Nat.sub_zero] at he
        have hz : 200 ≤ x.length := by omega
        obtain ⟨y, hy⟩ : ∃ y, x.take 200 = y := ⟨_, rfl⟩
        rw [hy] at he HSN
        clear hy
        go_wp2_with (at_builtin; refine wpList_app1 (W := wr) rfl _ _ 22 9 (.string ByteArray.empty) 16 rfl Tryd.underlying22 info_str rfl (by decide) (fun k => w.heap.size ≤ k) u3 (strs out) (.string (strB y)) rfl rfl rfl hrow (fun k hk => by omega) (by rw [strs_length]; omega) ?_; intro v4 w4 hown hkp hob)
        go_roundg (41 - (i + 1))
        case measure => have := HG.out; omega
        case rel => exact ⟨i + 1, hil, by omega, rfl, by go_num, by rw [HSN.out, strs_append]; exact hown, HKR.out.trans hkp fun b ho => .inr (hrow.2 b ho)⟩
      · have ht : x.take 200 = x := List.take_of_length_le (by omega)
        rw [ht] at HSN
        clear ht
        go_wp2_with (at_builtin; refine wpList_app1 (W := wr) rfl _ _ 22 9 (.string ByteArray.empty) 16 rfl Tryd.underlying22 info_str rfl (by decide) (fun k => w.heap.size ≤ k) u3 (strs out) (.string (strB x)) rfl rfl rfl hrow (fun k hk => by omega) (by rw [strs_length]; omega) ?_; intro v4 w4 hown hkp hob)
        go_roundg (41 - (i + 1))
        case measure => have := HG.out; omega
        case rel => exact ⟨i + 1, hil, by omega, rfl, by go_num, by rw [HSN.out, strs_append]; exact hown, HKR.out.trans hkp fun b ho => .inr (hrow.2 b ho)⟩
    · have hor : (¬ i < n) ∨ (i < n ∧ ¬ i < 40) := by omega
      have hfin : (ls.take i).map (fun x => x.take 200) = few40 ls := by
        unfold few40
        by_cases h : i < n
        · rw [show i = 40 by omega]
        · rw [List.take_of_length_le (by have := HLN.out; omega), List.take_of_length_le (by have := HLN.out; omega)]
      rw [hfin] at hrow
      clear hfin hgo
      rcases hor with h1 | ⟨h1, h2⟩
      case' inl =>
        have t1 : ¬ (i : Int) < (n : Int) := by omega
        have t3 : decide ((i : Int) < (n : Int)) = false := decide_eq_false t1
      case' inr =>
        have t1 : (i : Int) < (n : Int) := by omega
        have t2 : ¬ (i : Int) < 40 := by omega
      all_goals
        go_wp2_with fail
        go_ret
        exact ⟨_, rfl, hrow, HKR.out⟩
end Go.Proofs.YtamemddgajmimaaDoor
