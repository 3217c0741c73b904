/- caps.Has: the closures, and what it tells. -/
import Derived.Test.YtgohpjjamciadaaDoorCapsO
set_option linter.unusedVariables false
set_option linter.unusedSimpArgs false
namespace Go.Proofs.YtgohpjjamciadaaDoor
open Go.RowKit Go.Shelf

def IxS (w0 : World) (xs : List (List UInt8)) (p : List UInt8 → Bool) (gk : Nat) (v8 : Value) (wr : World) : Prop :=
  ∃ i, i ≤ xs.length ∧ gk = xs.length - i ∧ v8 = .int .i64 (i : Int) ∧ (xs.take i).any p = false ∧ wr = w0
theorem any_take {α : Type} (xs : List α) (p : α → Bool) {i : Nat} (h : i < xs.length) (h0 : (xs.take i).any p = false) (h1 : p xs[i] = false) : (xs.take (i + 1)).any p = false := by
  rw [List.take_succ_eq_append_getElem h, List.any_append, h0]
  simp [h1]
theorem any_hit {α : Type} (xs : List α) (p : α → Bool) {i : Nat} (h : i < xs.length) (h1 : p xs[i] = true) : xs.any p = true := List.any_eq_true.2 ⟨_, List.getElem_mem h, h1⟩

set_option maxHeartbeats 1000000 in
set_option maxRecDepth 100000 in
theorem index_calls (w : World) (S : Nat → Prop) (A : Option Addr) (n c : Nat) (xs : List (List UInt8)) (x : List UInt8) (hA : Reads w S A n (strs xs)) (hn : n ≤ 1099511627776) :
    Calls Tryd.prog 34 #[.slice A n c, .string (strB x)] w fun en w' => ∃ r : Int, en = .returned (.int .i64 r) ∧ decide (0 ≤ r) = xs.contains x ∧ w' = w := by
  have hl : xs.length = n := by have := hA.1; rwa [strs_length] at this
  go_enter Tryd.func34, Tryd.ntmps34
  go_wp2_with fail
  go_loopg [5, 8] n (fun gk v5 v8 wr => IxS w xs (fun y => y == x) gk v8 wr)
  case atStart => exact ⟨0, Nat.zero_le _, by omega, rfl, by simp, rfl⟩
  case round =>
    obtain ⟨i, hi, hgk, rfl, hany, rfl⟩ := hrel
    have HG := Lib.hid hgk
    have HA := Lib.hid hA
    have HANY := Lib.hid hany
    clear hgk hA hany
    rcases Nat.lt_or_ge i n with hlt | hge
    · have hli : i < xs.length := by omega
      obtain ⟨ad, u, hA1, hu, hcell⟩ := HA.out.at_ hlt
      subst hA1
      rw [strs_at xs i hli] at hu
      injection hu with hu
      subst hu
      by_cases he : x = xs[i]
      · have hb : (x == xs[i]) = true := by simpa using he
        have hc : xs.contains x = true := by rw [List.contains_iff_mem, he]; exact List.getElem_mem hli
        have HC := Lib.hid hc
        clear hc he
        go_wp2_with fail
        go_ret
        exact ⟨i, rfl, by rw [HC.out]; simp, rfl⟩
      · have hb : (x == xs[i]) = false := beq_eq_false_iff_ne.2 he
        have hn' := any_take xs (fun y => y == x) hli HANY.out (beq_eq_false_iff_ne.2 (Ne.symm he))
        have HN := Lib.hid hn'
        clear hn' he
        go_wp2_with fail
        go_roundg (n - (i + 1))
        case measure => have := HG.out; omega
        case rel => exact ⟨i + 1, by omega, by omega, by go_num, HN.out, rfl⟩
    · obtain rfl : i = n := by omega
      have hT : xs.take i = xs := List.take_of_length_le (by omega)
      rw [hT] at HANY
      have hc : xs.contains x = false := by
        rw [Bool.eq_false_iff]
        intro h
        have := List.any_eq_false.1 HANY.out x (List.contains_iff_mem.1 h)
        simp at this
      have HC := Lib.hid hc
      clear hc
      go_wp2_with fail
      go_ret
      exact ⟨-1, rfl, by rw [HC.out]; decide, rfl⟩

set_option maxHeartbeats 1000000 in
set_option maxRecDepth 100000 in
theorem contains_calls (w : World) (S : Nat → Prop) (A : Option Addr) (n c : Nat) (xs : List (List UInt8)) (x : List UInt8) (hA : Reads w S A n (strs xs)) (hn : n ≤ 1099511627776) :
    Calls Tryd.prog 28 #[.slice A n c, .string (strB x)] w fun en w' => en = .returned (.bool (xs.contains x)) ∧ w' = w := by
  go_enter Tryd.func28, Tryd.ntmps28
  go_wp2_with fail
  refine (index_calls w S A n c xs x hA hn).mono ?_
  rintro en w1 ⟨r, rfl, hr, rfl⟩
  have HR := Lib.hid hr
  clear hr
  go_wp2_with fail
  go_ret
  exact ⟨by rw [← HR.out]; rfl, rfl⟩

set_option maxHeartbeats 1000000 in
set_option maxRecDepth 100000 in
theorem lacks_calls (w : World) (S : Nat → Prop) (A : Option Addr) (n c g : Nat) (nm : Value) (xs : List (List UInt8)) (x : List UInt8) (hg : Blk w g 35 #[nm, .slice A n c]) (hA : Reads w S A n (strs xs)) (hn : n ≤ 1099511627776) :
    Calls Tryd.prog 27 #[.string (strB x), .pointer (some ⟨g, 0, none⟩)] w fun en w' => en = .returned (.bool (!xs.contains x)) ∧ w' = w := by
  have hc1 : w.cell? ⟨g, 1, none⟩ = some (.slice A n c) := by rw [hg.cell]; rfl
  clear hg
  go_enter Tryd.func27, Tryd.ntmps27
  go_wp2_with fail
  obtain ⟨b, hb⟩ : ∃ b, xs.contains x = b := ⟨_, rfl⟩
  have HB := Lib.hid hb
  clear hb
  refine (contains_calls w S A n c xs x hA hn).mono ?_
  rw [HB.out]
  rintro en w1 ⟨rfl, rfl⟩
  go_wp2_with fail
  go_ret
  exact ⟨by rw [HB.out]; rfl, rfl⟩

set_option maxHeartbeats 1000000 in
set_option maxRecDepth 100000 in
theorem indexF_calls (w : World) (S T : Nat → Prop) (A B : Option Addr) (n c m d g : Nat) (nm : Value) (xs ws : List (List UInt8)) (hg : Blk w g 35 #[nm, .slice A n c]) (hA : Reads w S A n (strs xs)) (hn : n ≤ 1099511627776)
    (hB : Reads w T B m (strs ws)) (hm : m ≤ 1099511627776) :
    Calls Tryd.prog 35 #[.slice B m d, .func (.func 27) #[] #[.pointer (some ⟨g, 0, none⟩)]] w fun en w' => ∃ r : Int, en = .returned (.int .i64 r) ∧ decide (0 ≤ r) = ws.any (fun y => !xs.contains y) ∧ w' = w := by
  have hl : ws.length = m := by have := hB.1; rwa [strs_length] at this
  go_enter Tryd.func35, Tryd.ntmps35
  go_wp2_with fail
  go_loopg [5, 8] m (fun gk v5 v8 wr => IxS w ws (fun y => !xs.contains y) gk v8 wr)
  case atStart => exact ⟨0, Nat.zero_le _, by omega, rfl, by simp, rfl⟩
  case round =>
    obtain ⟨i, hi, hgk, rfl, hany, rfl⟩ := hrel
    have HG := Lib.hid hgk
    have HB := Lib.hid hB
    have HBG := Lib.hid hg
    have HANY := Lib.hid hany
    clear hgk hB hany hg
    rcases Nat.lt_or_ge i m with hlt | hge
    · have hli : i < ws.length := by omega
      obtain ⟨ad, u, hA1, hu, hcell⟩ := HB.out.at_ hlt
      subst hA1
      rw [strs_at ws i hli] at hu
      injection hu with hu
      subst hu
      cases hp : xs.contains ws[i] with
      | false =>
        have hc := any_hit ws (fun y => !xs.contains y) hli (by simp only [hp]; rfl)
        have HC := Lib.hid hc
        have HP := Lib.hid hp
        clear hc hp
        go_wp2_with fail
        refine (lacks_calls wr S A n c g nm xs ws[i] HBG.out hA hn).mono ?_
        rw [HP.out]
        rintro en w1 ⟨rfl, rfl⟩
        go_wp2_with fail
        go_ret
        exact ⟨i, rfl, by rw [HC.out]; simp, rfl⟩
      | true =>
        have hn' := any_take ws (fun y => !xs.contains y) hli HANY.out (by simp only [hp]; rfl)
        have HN := Lib.hid hn'
        have HP := Lib.hid hp
        clear hn' hp
        go_wp2_with fail
        refine (lacks_calls wr S A n c g nm xs ws[i] HBG.out hA hn).mono ?_
        rw [HP.out]
        rintro en w1 ⟨rfl, rfl⟩
        go_wp2_with fail
        go_roundg (m - (i + 1))
        case measure => have := HG.out; omega
        case rel => exact ⟨i + 1, by omega, by omega, by go_num, HN.out, rfl⟩
    · obtain rfl : i = m := by omega
      have hT : ws.take i = ws := List.take_of_length_le (by omega)
      rw [hT] at HANY
      go_wp2_with fail
      go_ret
      exact ⟨-1, rfl, by rw [HANY.out]; decide, rfl⟩

set_option maxHeartbeats 1000000 in
set_option maxRecDepth 100000 in
theorem containsF_calls (w : World) (S T : Nat → Prop) (A B : Option Addr) (n c m d g : Nat) (nm : Value) (xs ws : List (List UInt8)) (hg : Blk w g 35 #[nm, .slice A n c]) (hA : Reads w S A n (strs xs)) (hn : n ≤ 1099511627776)
    (hB : Reads w T B m (strs ws)) (hm : m ≤ 1099511627776) :
    Calls Tryd.prog 29 #[.slice B m d, .func (.func 27) #[] #[.pointer (some ⟨g, 0, none⟩)]] w fun en w' => en = .returned (.bool (ws.any (fun y => !xs.contains y))) ∧ w' = w := by
  go_enter Tryd.func29, Tryd.ntmps29
  go_wp2_with fail
  refine (indexF_calls w S T A B n c m d g nm xs ws hg hA hn hB hm).mono ?_
  rintro en w1 ⟨r, rfl, hr, rfl⟩
  have HR := Lib.hid hr
  clear hr
  go_wp2_with fail
  go_ret
  exact ⟨by rw [← HR.out]; rfl, rfl⟩

theorem info_capI : ∃ i, Tryd.prog.info? 35 = some i ∧ i.size = 2 := by
  have : (Tryd.prog.info? 35).map (·.size) = some 2 := by kernel_rfl
  obtain ⟨i, h1, h2⟩ := Option.map_eq_some_iff.1 this
  exact ⟨i, h1, h2⟩

set_option maxHeartbeats 2000000 in
set_option maxRecDepth 100000 in
theorem each_calls (w : World) (S T : Nat → Prop) (A B : Option Addr) (n c m d g : Nat) (nm w0 : List UInt8) (xs ws : List (List UInt8)) (hg : Blk w g 22 #[.slice B m d]) (hA : Reads w S A n (strs xs)) (hn : n ≤ 1099511627776)
    (hB : Reads w T B m (strs (w0 :: ws))) (hm : m ≤ 1099511627776) (hmd : m ≤ d) :
    Calls Tryd.prog 26 #[.agg #[.string (strB nm), .slice A n c], .pointer (some ⟨g, 0, none⟩)] w fun en w' => en = .returned (.bool (hasC (nm, xs) w0 ws)) ∧ Kept w w' NoB := by
  have hl : ws.length + 1 = m := by have := hB.1; simpa [strs] using this
  obtain ⟨ad, u, hA1, hu, hcell⟩ := hB.at_ (k := 0) (by omega)
  subst hA1
  rw [strs_at (w0 :: ws) 0 (by simp)] at hu
  injection hu with hu
  subst hu
  rw [add_zero_] at hcell
  have hgl := hg.lt
  have hal : ad.block < w.heap.size := by
    obtain ⟨ad', h1, h2, h3, _⟩ := hB.2 (by omega)
    injection h1 with h1
    rw [h1]
    exact h3
  obtain ⟨W, hW⟩ : ∃ W, w.alloc (.cells #[.string (strB nm), .slice A n c] 35) = W := ⟨_, rfl⟩
  have hkW : Kept w W NoB := by rw [← hW]; exact (Kept.refl _ _).alloc _
  have hgW : Blk W g 22 #[.slice ad m d] := by rw [← hW]; exact hg.alloc _
  have hcW : W.cell? ⟨g, 0, none⟩ = some (.slice ad m d) := by rw [hgW.cell]; rfl
  have hc0 : W.cell? ad = some (.string (strB w0)) := hkW.cell hcell fun x => x
  have hbW : Blk W w.heap.size 35 #[.string (strB nm), .slice A n c] := by rw [← hW]; exact Blk.new _ _ _
  have hnW : W.cell? ⟨w.heap.size, 0, none⟩ = some (.string (strB nm)) := by rw [hbW.cell]; rfl
  have hAW := hA.kept0 hkW
  obtain ⟨A', hA'⟩ : ∃ A', (if d = 1 then some ad else some (⟨ad.block, ad.off + 1, none⟩ : Addr)) = A' := ⟨_, rfl⟩
  have hrA : Reads W T A' (m - 1) (strs ws) := by
    have := (hB.kept0 hkW).drop (k := 1) (cap := d) (by omega) hmd
    rw [strs_drop] at this
    have e : (if d = 1 then some ad else Option.map (fun x => x.add 1) (some ad)) = A' := hA'
    rw [e] at this
    exact this
  have HKW := Lib.hid hkW
  have HBW := Lib.hid hbW
  have HAW := Lib.hid hAW
  have HRA := Lib.hid hrA
  have t1 : (1 : Int) ≤ (m : Int) := by omega
  have t0 : (0 : Int) < (m : Int) := by omega
  clear hkW hbW hAW hrA hg hA hB hcell hgW
  go_enter Tryd.func26, Tryd.ntmps26
  cases he : (nm == w0) with
  | false =>
    have HE := Lib.hid he
    go_wp2_with fail
    go_quiet (fail)
    go_wp2_with fail
    go_ret
    exact ⟨by unfold hasC; rw [HE.out]; rfl, HKW.out.drewN _⟩
  | true =>
    have HE := Lib.hid he
    obtain ⟨b, hb⟩ : ∃ b, ws.any (fun y => !xs.contains y) = b := ⟨_, rfl⟩
    have HB := Lib.hid hb
    clear hb
    have hcall := fun k => containsF_calls (W.drewN k) S T A A' n c (m - 1) (d - 1) w.heap.size _ xs ws (HBW.out.drewN k) (HAW.out.drewN k) hn (HRA.out.drewN k) (by omega)
    rw [HB.out] at hcall
    have HCALL := Lib.hid hcall
    clear hcall
    go_wp2_with fail
    go_quiet (exact Calls.quiet_of_same (HCALL.out _))
    go_wp2_with fail
    go_ret
    refine ⟨?_, HKW.out.drewN _⟩
    have e : hasC (nm, xs) w0 ws = !b := by
      unfold hasC
      rw [HE.out, ← HB.out, Bool.true_and, List.all_eq_not_any_not]
    rw [e]
    rfl
end Go.Proofs.YtgohpjjamciadaaDoor
