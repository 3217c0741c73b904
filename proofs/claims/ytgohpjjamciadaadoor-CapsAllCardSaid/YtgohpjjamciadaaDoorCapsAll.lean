/- CapsAll's walk. -/
import Derived.Test.YtgohpjjamciadaaDoorCapsR2
import Derived.Test.YtgohpjjamciadaaDoorCapsR3
import Derived.Test.YtgohpjjamciadaaDoorRowW
set_option linter.unusedVariables false
set_option linter.unusedSimpArgs false
namespace Go.Proofs.YtgohpjjamciadaaDoor
open Go.RowKit Go.Shelf

theorem splitK_piece (sep : List UInt8) : ∀ (k : Nat) (s : List UInt8), ∀ x ∈ Lib.splitK sep 0 k s, x.length ≤ s.length
  | 0, s, x, hx => by rw [Lib.splitK, List.mem_singleton] at hx; rw [hx]; exact Nat.le_refl _
  | k + 1, s, x, hx => by
    rw [Lib.splitK] at hx
    split at hx
    · rw [List.mem_singleton] at hx
      rw [hx]
      exact Nat.le_refl _
    · rw [List.mem_cons] at hx
      rcases hx with rfl | hx
      · rw [List.length_take]; omega
      · have := splitK_piece sep k _ x hx
        rw [List.length_drop] at this
        omega
theorem linesL_len (proto : Int) (ls : List (List UInt8)) (body : List UInt8) : (linesL proto ls body).length ≤ ls.length + body.length + 2 := by
  unfold linesL
  split
  · rw [List.length_drop]; omega
  · split
    · rw [List.length_drop, List.length_take]; omega
    · split
      · have := split_len body [13, 10]
        omega
      · simp
theorem linesL_piece (proto : Int) (ls : List (List UInt8)) (body : List UInt8) (n : Nat) (h1 : ∀ x ∈ ls, x.length ≤ n) (h2 : body.length ≤ n) : ∀ x ∈ linesL proto ls body, x.length ≤ n := by
  intro x hx
  unfold linesL at hx
  split at hx
  · exact h1 x (List.mem_of_mem_drop hx)
  · split at hx
    · exact h1 x (List.mem_of_mem_take (List.mem_of_mem_drop hx))
    · split at hx
      · exact Nat.le_trans (splitK_piece _ _ _ x hx) h2
      · cases hx

set_option maxHeartbeats 8000000 in
set_option maxRecDepth 100000 in
theorem all_law (w : World) (proto : Int) (code : ByteArray) (A B : Option Addr) (n c m d : Nat) (ls : List (List UInt8)) (body want : List UInt8)
    (hA : Reads w (fun b => b < w.heap.size) A n (strs ls)) (hnc : n ≤ c) (hB : Reads w (fun b => b < w.heap.size) B m (b8s body)) (hmd : m ≤ d) (hls : ∀ l ∈ ls, l.length ≤ 9223372036854775807) (hw : want.length ≤ 140737488351232) (hm : MaxI w) :
    Calls Tryd.prog 3 #[.int .i64 proto, .agg #[.string code, .slice A n c, .slice B m d], .string (strB want)] w fun en w' => en = .returned (.bool true) ∧ Kept w w' NoB := by
  obtain ⟨W, hW⟩ : ∃ W, w.alloc (.cells #[.string code, .slice A n c, .slice B m d] 25) = W := ⟨_, rfl⟩
  have hkW : Kept w W NoB := by rw [← hW]; exact (Kept.refl _ _).alloc _
  have hbW : Blk W w.heap.size 25 #[.string code, .slice A n c, .slice B m d] := by rw [← hW]; exact Blk.new _ _ _
  have HK0 := Lib.hid hkW
  have HB0 := Lib.hid hbW
  have HA := Lib.hid hA
  have HB := Lib.hid hB
  have HLS := Lib.hid hls
  have hWs : w.heap.size < W.heap.size := hbW.lt
  clear hkW hbW hA hB hls
  go_enter Tryd.func3, Tryd.ntmps3
  go_wp2_with fail
  refine (shown_calls W (hm.kept0 HK0.out)).mono ?_
  rintro en w1 ⟨rfl, hk1⟩
  have HK1 := Lib.hid (HK0.out.trans' hk1)
  have HB1 := Lib.hid (HB0.out.kept0 hk1)
  have hs1 : w.heap.size < w1.heap.size := Nat.lt_of_lt_of_le hWs hk1.size
  have c0 : w1.cell? ⟨w.heap.size, 0, none⟩ = some (.string code) := by rw [HB1.out.cell]; rfl
  have c1 : w1.cell? ⟨w.heap.size, 1, none⟩ = some (.slice A n c) := by rw [HB1.out.cell]; rfl
  have c2 : w1.cell? ⟨w.heap.size, 2, none⟩ = some (.slice B m d) := by rw [HB1.out.cell]; rfl
  clear hk1
  go_wp2_with fail
  refine (few_calls w1 code _ (fun b => b < w.heap.size) A B n c m d ls body (HA.out.kept0 HK1.out) hnc (HB.out.kept0 HK1.out) hmd HLS.out).mono ?_
  clear c0 c1 c2
  rintro en w2 ⟨C, k, e, D, j, f, rfl, hke, hjf, hrC, hrD, hk2⟩
  have HK2 := Lib.hid (HK1.out.trans' hk2)
  have hB2 := HB1.out.kept0 hk2
  have f0 := hB2.frozen 0
  have f1 := hB2.frozen 1
  have f2 := hB2.frozen 2
  have c0 : w2.cell? ⟨w.heap.size, 0, none⟩ = some (.string code) := by rw [hB2.cell]; rfl
  have c1 : w2.cell? ⟨w.heap.size, 1, none⟩ = some (.slice A n c) := by rw [hB2.cell]; rfl
  have c2 : w2.cell? ⟨w.heap.size, 2, none⟩ = some (.slice B m d) := by rw [hB2.cell]; rfl
  obtain ⟨W3, hW3⟩ : ∃ W3, ((w2.setCell ⟨w.heap.size, 0, none⟩ (.string code)).setCell ⟨w.heap.size, 1, none⟩ (.slice C k e)).setCell ⟨w.heap.size, 2, none⟩ (.slice D j f) = W3 := ⟨_, rfl⟩
  have hB3 : Blk W3 w.heap.size 25 #[.string code, .slice C k e, .slice D j f] := by
    have h3 := ((hB2.set_ 0 (.string code)).set_ 1 (.slice C k e)).set_ 2 (.slice D j f)
    rw [hW3] at h3
    exact h3
  have hK23 : Kept w2 W3 (fun b => b = w.heap.size) := by
    have h3 := (((Kept.refl w2 (fun b => b = w.heap.size)).setCell (p := ⟨w.heap.size, 0, none⟩) (.inl rfl) (.string code)).setCell (p := ⟨w.heap.size, 1, none⟩) (.inl rfl) (.slice C k e)).setCell (p := ⟨w.heap.size, 2, none⟩) (.inl rfl) (.slice D j f)
    rw [hW3] at h3
    exact h3
  have HB3 := Lib.hid hB3
  have HK3 := Lib.hid (HK2.out.trans hK23 fun b hb => .inr (by rw [hb]; exact Nat.le_refl _))
  have HC3 := Lib.hid (hrC.kept hK23 fun b _ hb e => by omega)
  have HD3 := Lib.hid (hrD.kept hK23 fun b _ hb e => by omega)
  clear hk2 hB2 hB3 hK23 hrC hrD
  go_wp2_with fail
  refine (short_calls _ want (by omega)).mono ?_
  clear c0 c1 c2 f0 f1 f2
  rintro en wx ⟨rfl, hwx⟩
  rw [hwx]
  clear hwx hW3 wx
  obtain ⟨t, ht⟩ : ∃ t, want.take 200 = t := ⟨_, rfl⟩
  have htl : t.length ≤ 200 := by rw [← ht, List.length_take]; omega
  rw [ht]
  clear ht
  obtain ⟨l2, hl2⟩ : ∃ l, fewL ls = l := ⟨_, rfl⟩
  obtain ⟨b2, hb2⟩ : ∃ b, body.take 1000 = b := ⟨_, rfl⟩
  have hl2n : l2.length ≤ 24 := by rw [← hl2, fewL, List.length_map, List.length_take]; omega
  have hl2p : ∀ x ∈ l2, x.length ≤ 1000 := by
    intro x hx
    rw [← hl2, fewL, List.mem_map] at hx
    obtain ⟨y, _, rfl⟩ := hx
    rw [List.length_take]
    omega
  have hb2n : b2.length ≤ 1000 := by rw [← hb2, List.length_take]; omega
  rw [hl2] at HC3
  rw [hb2] at HD3
  obtain ⟨L, hL⟩ : ∃ L, linesL proto l2 b2 = L := ⟨_, rfl⟩
  have hLn : L.length ≤ 1026 := by have := linesL_len proto l2 b2; rw [hL] at this; omega
  have hLp : ∀ x ∈ L, x.length ≤ 1000 := by rw [← hL]; exact linesL_piece proto l2 b2 1000 hl2p hb2n
  have hLp2 : ∀ x ∈ L, x.length ≤ 1099511627 := fun x hx => by have := hLp x hx; omega
  obtain ⟨cs, hcs⟩ : ∃ cs, capsL L = cs := ⟨_, rfl⟩
  have hcn : cs.length ≤ 1026 := by rw [← hcs]; have := capsL_len L; omega
  have hcw : ∀ x ∈ cs, x.2.length ≤ 1099511627776 := by rw [← hcs]; exact fun x hx => Nat.le_trans (capsL_words L 1000 hLp x hx) (by decide)
  have hkn : k ≤ 24 := by have h := HC3.out.1; rw [strs_length] at h; omega
  have HL := Lib.hid hL
  have HLP := Lib.hid hLp2
  have HCS := Lib.hid hcs
  have HCW := Lib.hid hcw
  have HBq := HB3
  have c0 : W3.cell? ⟨w.heap.size, 0, none⟩ = some (.string code) := by rw [HBq.out.cell]; rfl
  have c1 : W3.cell? ⟨w.heap.size, 1, none⟩ = some (.slice C k e) := by rw [HBq.out.cell]; rfl
  have c2 : W3.cell? ⟨w.heap.size, 2, none⟩ = some (.slice D j f) := by rw [HBq.out.cell]; rfl
  clear hl2 hb2 hl2p hL hLp hLp2 hcs hcw
  go_wp2_with fail
  have ha := of_calls W3 proto (.string code) _ _ C D k e j f l2 b2 HC3.out hke HD3.out (by omega) (by omega) (hm.kept0 HK3.out) ⟨_, rfl⟩ L HL.out (by omega) HLP.out
  rw [HCS.out] at ha
  refine ha.mono ?_
  clear ha c0 c1 c2
  rintro en w4 ⟨E, e4, rfl, he4, hc4, hk4⟩
  have HK4 := Lib.hid (HK3.out.trans' hk4)
  have HC4 := Lib.hid (HC3.out.kept0 hk4)
  have HD4 := Lib.hid (HD3.out.kept0 hk4)
  have HE4 := Lib.hid hc4
  have HBq := Lib.hid (HB3.out.kept0 hk4)
  have c0 : w4.cell? ⟨w.heap.size, 0, none⟩ = some (.string code) := by rw [HBq.out.cell]; rfl
  have c1 : w4.cell? ⟨w.heap.size, 1, none⟩ = some (.slice C k e) := by rw [HBq.out.cell]; rfl
  have c2 : w4.cell? ⟨w.heap.size, 2, none⟩ = some (.slice D j f) := by rw [HBq.out.cell]; rfl
  clear hk4 hc4
  go_wp2_with fail
  have hb := refOf_calls w4 proto code _ _ C D k e j f l2 b2 HC4.out hke HD4.out hjf (by omega) (by omega) L HL.out (by omega) HLP.out
  rw [HCS.out] at hb
  refine hb.mono ?_
  clear hb c0 c1 c2
  rintro en w5 ⟨F, e5, rfl, he5, hc5, hk5⟩
  have HK5 := Lib.hid (HK4.out.trans' hk5)
  have HE5 := Lib.hid (HE4.out.kept0 hk5)
  have HF5 := Lib.hid hc5
  clear hk5 hc5
  go_wp2_with fail
  refine (sameC_calls w5 _ _ E F cs.length e4 cs.length e5 cs cs HE5.out HF5.out (by omega) (by omega) HCW.out HCW.out).mono ?_
  rw [decide_eq_true (rfl : cs = cs)]
  rintro en w6 ⟨rfl, m6, hw6⟩
  have hk6 : Kept w5 w6 NoB := by rw [hw6]; exact (Kept.refl _ _).drewN _
  have HK6 := Lib.hid (HK5.out.trans' hk6)
  have HE6 := Lib.hid (HE5.out.kept0 hk6)
  have HF6 := Lib.hid (HF5.out.kept0 hk6)
  obtain ⟨h, hh⟩ : ∃ h, hasL cs t = h := ⟨_, rfl⟩
  have HH := Lib.hid hh
  clear hw6 hk6 hh
  go_wp2_with fail
  refine (has_calls w6 _ E cs.length e4 cs t HE6.out (by omega) (by omega) (hm.kept0 HK6.out) HCW.out).mono ?_
  rw [HH.out]
  rintro en w7 ⟨rfl, hk7⟩
  have HK7 := Lib.hid (HK6.out.trans' hk7)
  have HF7 := Lib.hid (HF6.out.kept0 hk7)
  clear hk7
  go_wp2_with fail
  refine (refHas_calls w7 _ F cs.length e5 cs t HF7.out (by omega) (by omega) HCW.out).mono ?_
  rw [HH.out]
  rintro en w8 ⟨rfl, hk8⟩
  have HK8 := Lib.hid (HK7.out.trans' hk8)
  clear hk8
  go_wp2_with fail
  go_ret
  exact ⟨rfl, HK8.out⟩

theorem capsAll_walk (W : World) (a0 : Int) (a1_0 : ByteArray) (a1_1 : Option Addr) (len1_1 cap1_1 : Nat) (z1_1 : List ByteArray) (a1_2 : Option Addr) (len1_2 cap1_2 : Nat) (z1_2 : List Int) (a2 : ByteArray)
    (w0 : (Lit.int .i64 a0).wf = true) (w1_1 : IsStrs W a1_1 len1_1 cap1_1 z1_1) (w1_2 : IsRow .u8 W a1_2 len1_2 cap1_2 z1_2) (w2 : a2.size ≤ 140737488351232) (hsh : W.ShapedOpen Tryd.prog) :
    Calls Tryd.prog 3 #[.int .i64 a0, .agg #[.string a1_0, .slice a1_1 len1_1 cap1_1, .slice a1_2 len1_2 cap1_2], .string a2] W fun en w' => en = .returned (.bool true) ∧ Below W.heap.size W w' := by
  obtain ⟨t, rfl, ht⟩ := strB_of a2
  obtain ⟨h1, h2, h3, h4⟩ := w1_1.reads
  obtain ⟨h5, h6, h7⟩ := w1_2.bytes_
  have hmap : (z1_1.take len1_1).map Value.string = strs ((z1_1.take len1_1).map fun s => s.data.toList) := by
    unfold strs
    rw [List.map_map]
    refine List.map_congr_left fun s _ => ?_
    simp [strB_data]
  rw [hmap] at h1
  refine (all_law W a0 a1_0 a1_1 a1_2 len1_1 cap1_1 len1_2 cap1_2 _ _ t h1 h2 h6 h7 ?_ (by omega) (MaxI.of_shape hsh)).mono fun _ _ ⟨he, hk⟩ => ⟨he, hk.below⟩
  intro l hl
  rw [List.mem_map] at hl
  obtain ⟨s, hs, rfl⟩ := hl
  have := h4 s hs
  rw [Array.length_toList]
  simp only [maxLen] at this
  exact this
end Go.Proofs.YtgohpjjamciadaaDoor
