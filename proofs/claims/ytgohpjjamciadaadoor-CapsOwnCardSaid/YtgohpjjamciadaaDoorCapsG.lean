/- caps.Has: the search over things, and what it tells; the reference's comparison. -/
import Derived.Test.YtgohpjjamciadaaDoorCapsH
set_option linter.unusedVariables false
set_option linter.unusedSimpArgs false
namespace Go.Proofs.YtgohpjjamciadaaDoor
open Go.RowKit Go.Shelf

def JxS (w0 : World) (l : List CapV) (p : CapV → Bool) (gk : Nat) (v8 : Value) (wr : World) : Prop :=
  ∃ i, i ≤ l.length ∧ gk = l.length - i ∧ v8 = .int .i64 (i : Int) ∧ (l.take i).any p = false ∧ Kept w0 wr NoB

set_option maxHeartbeats 1000000 in
set_option maxRecDepth 100000 in
theorem indexC_calls (w : World) (S T : Nat → Prop) (A B : Option Addr) (n c m d g : Nat) (w0 : List UInt8) (l : List CapV) (ws : List (List UInt8)) (hg : Blk w g 22 #[.slice B m d]) (hA : CapsR w S A n l) (hn : n ≤ 1099511627776)
    (hB : Reads w T B m (strs (w0 :: ws))) (hm : m ≤ 1099511627776) (hmd : m ≤ d) (hl2 : ∀ x ∈ l, x.2.length ≤ 1099511627776) :
    Calls Tryd.prog 33 #[.slice A n c, .func (.func 26) #[] #[.pointer (some ⟨g, 0, none⟩)]] w fun en w' => ∃ r : Int, en = .returned (.int .i64 r) ∧ decide (0 ≤ r) = l.any (fun c => hasC c w0 ws) ∧ Kept w w' NoB := by
  have hl : l.length = n := hA.1
  go_enter Tryd.func33, Tryd.ntmps33
  go_wp2_with fail
  go_loopg [5, 8] n (fun gk v5 v8 wr => JxS w l (fun c => hasC c w0 ws) gk v8 wr)
  case atStart => exact ⟨0, Nat.zero_le _, by omega, rfl, by simp, Kept.refl _ _⟩
  case round =>
    obtain ⟨i, hi, hgk, rfl, hany, hkr⟩ := hrel
    have HG := Lib.hid hgk
    have HAr := Lib.hid (hA.kept0 hkr)
    have HBr := Lib.hid (hB.kept0 hkr)
    have HGr := Lib.hid (hg.kept0 hkr)
    have HKR := Lib.hid hkr
    have HANY := Lib.hid hany
    clear hgk hA hB hg hany hkr
    rcases Nat.lt_or_ge i n with hlt | hge
    · have hli : i < l.length := by omega
      obtain ⟨ad, X, x, xc, hA1, hab, hcell0, hcell1, hxc, hX⟩ := HAr.out.at_ hlt hli
      subst hA1
      have hxl : x ≤ 1099511627776 := by
        have h1 := hX.1
        rw [strs_length] at h1
        have h2 := hl2 l[i] (List.getElem_mem hli)
        omega
      have HX := Lib.hid hX
      clear hX
      cases hp : hasC l[i] w0 ws with
      | true =>
        have hc := any_hit l (fun c => hasC c w0 ws) hli hp
        have HC := Lib.hid hc
        have HP := Lib.hid hp
        clear hc hp
        go_wp2_with fail
        refine (each_calls wr S T X B x xc m d g l[i].1 w0 l[i].2 ws HGr.out HX.out hxl HBr.out hm hmd).mono ?_
        rw [show hasC (l[i].1, l[i].2) w0 ws = true from HP.out]
        rintro en w1 ⟨rfl, hk1⟩
        have HK1 := Lib.hid (HKR.out.trans' hk1)
        clear hk1
        go_wp2_with fail
        go_ret
        exact ⟨i, rfl, by rw [HC.out]; simp, HK1.out⟩
      | false =>
        have hn' := any_take l (fun c => hasC c w0 ws) hli HANY.out hp
        have HN := Lib.hid hn'
        have HP := Lib.hid hp
        clear hn' hp
        go_wp2_with fail
        refine (each_calls wr S T X B x xc m d g l[i].1 w0 l[i].2 ws HGr.out HX.out hxl HBr.out hm hmd).mono ?_
        rw [show hasC (l[i].1, l[i].2) w0 ws = false from HP.out]
        rintro en w1 ⟨rfl, hk1⟩
        have HK1 := Lib.hid (HKR.out.trans' hk1)
        clear hk1
        go_wp2_with fail
        go_roundg (n - (i + 1))
        case measure => have := HG.out; omega
        case rel => exact ⟨i + 1, by omega, by omega, by go_num, HN.out, HK1.out⟩
    · obtain rfl : i = n := by omega
      have hT : l.take i = l := List.take_of_length_le (by omega)
      rw [hT] at HANY
      go_wp2_with fail
      go_ret
      exact ⟨-1, rfl, by rw [HANY.out]; decide, HKR.out⟩

set_option maxHeartbeats 1000000 in
set_option maxRecDepth 100000 in
theorem containsC_calls (w : World) (S T : Nat → Prop) (A B : Option Addr) (n c m d g : Nat) (w0 : List UInt8) (l : List CapV) (ws : List (List UInt8)) (hg : Blk w g 22 #[.slice B m d]) (hA : CapsR w S A n l) (hn : n ≤ 1099511627776)
    (hB : Reads w T B m (strs (w0 :: ws))) (hm : m ≤ 1099511627776) (hmd : m ≤ d) (hl2 : ∀ x ∈ l, x.2.length ≤ 1099511627776) :
    Calls Tryd.prog 25 #[.slice A n c, .func (.func 26) #[] #[.pointer (some ⟨g, 0, none⟩)]] w fun en w' => en = .returned (.bool (l.any (fun c => hasC c w0 ws))) ∧ Kept w w' NoB := by
  go_enter Tryd.func25, Tryd.ntmps25
  go_wp2_with fail
  refine (indexC_calls w S T A B n c m d g w0 l ws hg hA hn hB hm hmd hl2).mono ?_
  rintro en w1 ⟨r, rfl, hr, hk⟩
  have HR := Lib.hid hr
  have HK := Lib.hid hk
  clear hr hk
  go_wp2_with fail
  go_ret
  exact ⟨by rw [← HR.out]; rfl, HK.out⟩

set_option maxHeartbeats 1000000 in
set_option maxRecDepth 100000 in
theorem has_calls (w : World) (S : Nat → Prop) (A : Option Addr) (n c : Nat) (l : List CapV) (want : List UInt8) (hA : CapsR w S A n l) (hn : n ≤ 1099511627776) (hw : want.length ≤ 1099511627) (hm : MaxI w) (hl2 : ∀ x ∈ l, x.2.length ≤ 1099511627776) :
    Calls Tryd.prog 14 #[.slice A n c, .string (strB want)] w fun en w' => en = .returned (.bool (hasL l want)) ∧ Kept w w' NoB := by
  go_enter Tryd.func14, Tryd.ntmps14
  go_wp2_with fail
  refine (upper_calls w want (by omega)).mono ?_
  rintro en w1 ⟨rfl, hk1⟩
  go_wp2_with fail
  refine (words_calls w1 (upL want) (by rw [upL_length]; omega) (hm.kept0 hk1)).mono ?_
  rintro en w2 ⟨v, rfl, hrow, hk2⟩
  obtain ⟨ws, hws⟩ : ∃ ws, wordsL (upL want) = ws := ⟨_, rfl⟩
  have hhas : hasL l want = hasW l ws := by unfold hasL; rw [hws]
  rw [hws] at hrow
  have HH := Lib.hid hhas
  obtain ⟨B, d, rfl, hd, hB⟩ := hrow.readsN (n := ws.length) (strs_length _)
  have HK2 := Lib.hid (hk1.trans' hk2)
  have HA2 := Lib.hid (hA.kept0 (hk1.trans' hk2))
  have HB := Lib.hid hB
  have hwsl : ws.length ≤ 1099511627776 := by
    have := words_len want
    rw [hws] at this
    omega
  clear hrow hk1 hk2 hA hws hhas hB
  rcases ws with _ | ⟨w0, ws⟩
  · go_wp2_with fail
    go_ret
    exact ⟨by rw [HH.out]; rfl, (HK2.out.alloc _)⟩
  · have t0 : (0 : Int) < ((ws.length + 1 : Nat) : Int) := by omega
    simp only [List.length_cons] at hd hwsl ⊢
    go_wp2_with fail
    refine (containsC_calls (w2.alloc (.cells #[.slice B (ws.length + 1) d] 22)) S _ A B n c (ws.length + 1) d w2.heap.size w0 l ws (Blk.new _ _ _) (HA2.out.kept0 ((Kept.refl _ _).alloc _)) hn (HB.out.alloc _) hwsl hd hl2).mono ?_
    rintro en w3 ⟨rfl, hk3⟩
    have HK3 := Lib.hid ((HK2.out.alloc _).trans' hk3)
    have e : hasL l want = l.any (fun c => hasC c w0 ws) := HH.out
    rw [← e]
    clear hk3 e
    go_wp2_with fail
    go_ret
    exact ⟨rfl, HK3.out⟩
end Go.Proofs.YtgohpjjamciadaaDoor
