/- Variables: the reference's Set and Expand: what they compute. -/
import Derived.Test.YtcggpedebcamdaaDoorVarR3
import Derived.Laws.OwnMore
set_option linter.unusedVariables false
set_option linter.unusedSimpArgs false
namespace Go.Proofs.YtcggpedebcamdaaDoor
open Go.RowKit Go.Shelf Go.Lib

theorem keptN {w w1 w2 : World} {e : TypeId} {v1 : Value} {xs : List Value} (h1 : Kept (w.alloc (.cells #[] e)) w1 (OB (.slice (some ⟨w.heap.size, 0, none⟩) 0 0))) (ho : Row w1 e (fun k => w.heap.size ≤ k) v1 xs) (h2 : Kept w1 w2 (OB v1)) : Kept w w2 NoB :=
  (((Kept.refl w NoB).alloc (.cells #[] e)).trans h1 fun b hb => .inr (by have := ob_lit hb; omega)).trans h2 fun b hb => .inr (ho.2 b hb)
set_option maxHeartbeats 4000000 in
set_option maxRecDepth 100000 in
theorem refSet_calls (w : World) (N y : Nat) (m : VarL) (k v : List UInt8) (h : VarsQ w N y m) (hN : N ≤ w.heap.size) (hm : m.length ≤ 16) (e : Int × VarL) (he : setL m k v = e) :
    Calls Tryd.prog 19 #[.pointer (some ⟨y, 0, none⟩), .string (strB k), .string (strB v)] w fun en w' => en = .returned (.int .i64 e.1) ∧ VarsQ w' N y e.2 ∧ Kept w w' (fun b => b = y) := by
  have hcall := refAt_calls w N y m k h (by omega)
  have H := Lib.hid h
  have HE := Lib.hid he
  have HC := Lib.hid hcall
  clear h he hcall
  go_enter Tryd.func19, Tryd.ntmps19
  by_cases hv : 1000 < v.length
  · have t1 : (1000 : Int) < (v.length : Int) := by omega
    have e1 : e = (71, m) := by rw [← HE.out, setL, if_pos hv]
    subst e1
    go_wp2_with fail
    go_ret
    exact ⟨rfl, H.out, Kept.refl _ _⟩
  · have t1 : ¬ (1000 : Int) < (v.length : Int) := by omega
    obtain ⟨vn, vv, hb, hn, hvr⟩ := H.out
    obtain ⟨An, cn, rfl, hcn, hRn⟩ := hn.readsN (n := m.length) (by rw [strs_length, List.length_map])
    have hney : ∀ k, OB vv k → k ≠ y := fun k hk e => hvr.ne_blk hb (by decide) (e ▸ hk)
    obtain ⟨Av, cv, rfl, hcv, hRv⟩ := hvr.readsO (n := m.length) (by rw [strs_length, List.length_map])
    obtain ⟨⟨c0, c1⟩, f0, f1⟩ := hb.cells2
    have HRVY := Lib.hid (hRv.mono (T := fun k => k < w.heap.size ∧ k ≠ y) fun k h ho => ⟨h, hney k ho⟩)
    clear hney
    have hyl := hb.lt
    have HB := Lib.hid hb
    have HN := Lib.hid hn
    have HV := Lib.hid hvr
    have HRN := Lib.hid ((hRn.mono (T := fun k => k < w.heap.size) fun k h _ => h))
    have HRV := Lib.hid ((hRv.mono (T := fun k => k < w.heap.size) fun k h _ => h))
    have HO1 := Lib.hid (strs_oneR (m.map (·.1)))
    have HO2 := Lib.hid (strs_oneR (m.map (·.2)))
    clear hb hn hvr hRn hRv
    go_wp2_with fail
    refine HC.out.mono ?_
    rintro en w1 ⟨n, rfl, hor, rfl⟩
    rcases hor with ⟨i, hi, rfl, hf, hput, hki⟩ | ⟨rfl, hf, hput⟩
    · have HKI := Lib.hid hki
      have t2 : ¬ (i : Int) < 0 := by omega
      have e1 : e = (0, m.set i (k, v)) := by rw [← HE.out, setL, if_neg hv, if_neg (fun hh => by rw [hf] at hh; cases hh.1), hput]
      subst e1
      clear hf hput hki
      go_wp2_with (at_builtin; refine wpList_appN (W := w1.alloc (.cells #[] 9)) rfl _ _ 34 9 (.string ByteArray.empty) 16 rfl Tryd.underlying34 info_str rfl (by decide) (fun k => w1.heap.size ≤ k) (fun k => k < w1.heap.size) (.slice (some ⟨w1.heap.size, 0, none⟩) 0 0) [] (strs (m.map (·.2))) Av m.length cv rfl rfl HO2.out (Row.made0 w1 _ _ (Nat.le_refl _)) (HRV.out.alloc _) (fun k hk => by rw [World.size_alloc] at hk; omega) (by simp only [List.length_nil]; omega) ?_)
      intro v1 w2 hown hkp hob
      have hk2 : Kept w1 w2 NoB := ((Kept.refl w1 NoB).alloc (.cells #[] 9)).trans hkp fun b hb => .inr (by have := ob_lit hb; omega)
      have hb2 := HB.out.kept0 hk2
      obtain ⟨⟨d0, d1⟩, g0, g1⟩ := hb2.cells2
      have hyl2 := hb2.lt
      have hown' : Row w2 9 (fun k => w1.heap.size ≤ k) v1 (strs (m.map (·.2))) := hown
      have hyv : v1.ownBlock ≠ some y := hown.ne_blk hb2 (by decide)
      rcases hown'.1.2 with ⟨hnil, h0⟩ | ⟨g, cap, cur, rfl, hgb, hgh, hc1, hc2, hc3⟩
      · rw [strs_length, List.length_map] at h0
        omega
      · rw [strs_length, List.length_map] at hc1 ⊢
        have hgy : ¬ g = y := fun e => hyv (by rw [e]; simp [Value.ownBlock])
        have hgl : g < w2.heap.size := (Array.getElem?_eq_some_iff.1 hgh).1
        have hgw : w1.heap.size ≤ g := hown'.2 g (by simp [Value.ownBlock])
        have hcelli : w2.cell? ⟨g, i, none⟩ = some (.string (strB (m[i].2))) := by
          have h := hown'.1.cells (g := g) rfl i (.string (strB (m[i].2))) (by rw [strs_at _ i (by rw [List.length_map]; exact hi), List.getElem_map])
          rwa [add_lit0] at h
        have hfri : w2.frozen? ⟨g, i, none⟩ = false := by
          simp [World.frozen?, hgh]
        have HOWN := Lib.hid hown'
        have HK2 := Lib.hid hk2
        have HB2 := Lib.hid hb2
        have HGH := Lib.hid hgh
        have HC3 := Lib.hid hc3
        have hyg : ¬ y = g := fun e => hgy e.symm
        clear hown hown' hkp hob hk2 hb2 hyv c0 c1 f0 f1 hgh hc3
        go_wp2_with fail
        go_ret
        refine ⟨rfl, ⟨_, _, (HB2.out.set_ 1 _).far (p := ⟨g, i, none⟩) hyg _, ?_, ?_⟩, ?_⟩
        · have := HN.out.kept0 HK2.out
          have h1 : (Value.slice An m.length cn).ownBlock ≠ some y := this.ne_blk HB2.out (by decide)
          have h2 : (Value.slice An m.length cn).ownBlock ≠ some g := fun e => by have := HN.out.lt e; omega
          have hm1 : (m.set i (k, v)).map (·.1) = m.map (·.1) := by
            rw [List.map_set]
            apply List.ext_getElem?
            intro j
            rw [List.getElem?_set]
            split
            · next hij =>
              subst hij
              rw [if_pos (by rw [List.length_map]; exact hi), List.getElem?_map, List.getElem?_eq_getElem hi, Option.map_some, HKI.out]
            · rfl
          rw [hm1]
          exact (this.far (p := ⟨y, 1, none⟩) h1 _).far (p := ⟨g, i, none⟩) h2 _
        · have hmv : strs ((m.set i (k, v)).map (·.2)) = (strs (m.map (·.2))).set i (.string (strB v)) := by
            unfold strs
            rw [List.map_set, List.map_set]
          rw [hmv]
          have hw := HOWN.out
          simp only [strs_length, List.length_map] at hw
          have h1 := hw.far (p := ⟨y, 1, none⟩) (by show _ ≠ some y; simp [Value.ownBlock]; exact hgy) (.slice (some ⟨g, 0, none⟩) m.length cap)
          refine ⟨?_, fun k hk => by have h : g = k := by simpa [Value.ownBlock] using hk
                                     show N ≤ k
                                     omega⟩
          have h2 := h1.1
          rw [strs_length, List.length_map] at h2
          have h3 := (World.ownsRow.stored h2 i (.string (strB v))).1
          rw [List.length_set, strs_length, List.length_map]
          exact h3
        · exact (((HK2.out.of_no (S := fun b => b = y)).setCell (p := ⟨y, 1, none⟩) (.inl rfl) _).setCell (p := ⟨g, i, none⟩) (.inr hgw) _)
    · have t2 : (-1 : Int) < 0 := by omega
      by_cases h16 : 16 ≤ m.length
      · have t3 : (16 : Int) ≤ (m.length : Int) := by omega
        have e1 : e = (72, m) := by rw [← HE.out, setL, if_neg hv, if_pos ⟨hf, h16⟩]
        subst e1
        clear hf hput
        go_wp2_with fail
        go_ret
        exact ⟨rfl, H.out, Kept.refl _ _⟩
      · have t3 : ¬ (16 : Int) ≤ (m.length : Int) := by omega
        have e1 : e = (0, m ++ [(k, v)]) := by rw [← HE.out, setL, if_neg hv, if_neg (fun hh => h16 hh.2), hput]
        subst e1
        clear hf hput
        go_wp2_with (first
          | (at_builtin; refine wpList_appN (W := w1.alloc (.cells #[] 9)) rfl _ _ 34 9 (.string ByteArray.empty) 16 rfl Tryd.underlying34 info_str rfl (by decide) (fun k => w1.heap.size ≤ k) (fun k => k < w1.heap.size) (.slice (some ⟨w1.heap.size, 0, none⟩) 0 0) [] (strs (m.map (·.1))) An m.length cn rfl rfl HO1.out (Row.made0 w1 _ _ (Nat.le_refl _)) (HRN.out.alloc _) (fun k hk => by rw [World.size_alloc] at hk; omega) (by simp only [List.length_nil]; omega) ?_; intro v1 w2 hown hkp hob)
          | (at_builtin; refine wpList_app1 (W := w2) rfl _ _ 34 9 (.string ByteArray.empty) 16 rfl Tryd.underlying34 info_str rfl (by decide) (fun k => w1.heap.size ≤ k) v1 _ (.string (strB k)) rfl rfl rfl hown (fun k hk => by have h1 := hkp.size; rw [World.size_alloc] at h1; omega) (by simp only [List.length_append, List.length_nil, strs_length, List.length_map]; omega) ?_))
        intro v2 w3 hown2 hkp2 hob2
        have hk3 : Kept w1 w3 NoB := keptN hkp hown hkp2
        have hb3 := HB.out.kept0 hk3
        obtain ⟨⟨d0, d1⟩, g0, g1⟩ := hb3.cells2
        have hyl3 := hb3.lt
        have hyl4 : y < w3.heap.size + 1 := by omega
        have hown2' : Row w3 9 (fun k => w1.heap.size ≤ k) v2 (strs (m.map (·.1) ++ [k])) := by rw [strs_append]; exact hown2
        have hy2 : v2.ownBlock ≠ some y := hown2.ne_blk hb3 (by decide)
        obtain ⟨A2, n2, c2, hv2⟩ := hown2.slice
        have HOW2 := Lib.hid hown2'
        have HK3 := Lib.hid hk3
        have HB3 := Lib.hid hb3
        have HY2 := Lib.hid hy2
        have HRV3 := Lib.hid ((HRVY.out.kept0 hk3).mono (T := fun k => k < w1.heap.size ∧ k ≠ y) fun k _ h => h)
        subst hv2
        clear hown hkp hob hown2 hkp2 hob2 hk3 hb3 hown2' hy2 c0 c1 f0 f1
        obtain ⟨w4, hw4⟩ : ∃ w4, w3.setCell ⟨y, 0, none⟩ (.slice A2 n2 c2) = w4 := ⟨_, rfl⟩
        have hs4 : w4.heap.size = w3.heap.size := by rw [← hw4]; simp [World.setCell]
        have hk4 : Kept w3 w4 (fun k => k = y) := by rw [← hw4]; exact (Kept.refl w3 (fun k => k = y)).setCell (p := ⟨y, 0, none⟩) (.inl rfl) _
        have hrv4 := (HRV3.out.kept hk4 (fun b _ hb e => hb.2 e)).mono (T := fun k => k < w4.heap.size) fun k h _ => h
        have hb4 : Blk w4 y 42 #[.slice A2 n2 c2, .slice Av m.length cv] := by rw [← hw4]; exact HB3.out.set_ 0 _
        have hown4 : Row w4 9 (fun k => w1.heap.size ≤ k) (.slice A2 n2 c2) (strs (m.map (·.1) ++ [k])) := by rw [← hw4]; exact HOW2.out.far (p := ⟨y, 0, none⟩) HY2.out _
        have HS4 := Lib.hid hs4
        have HW4 := Lib.hid hw4
        have HK4 := Lib.hid hk4
        have HRV4 := Lib.hid hrv4
        have HB4 := Lib.hid hb4
        have HOWN4 := Lib.hid hown4
        have hz : w1.heap.size ≤ w3.heap.size := HK3.out.size
        clear hs4 hw4 hk4 hrv4 hb4 hown4
        go_upto_region 8 with fail
        rw [HW4.out]
        obtain ⟨⟨b0, b1⟩, r0, r1⟩ := HB4.out.cells2
        have hyl5 := HB4.out.lt
        clear d0 d1 g0 g1 hyl3 hyl4
        go_wp2_with (first
          | (at_builtin; refine wpList_appN (W := w4.alloc (.cells #[] 9)) rfl _ _ 34 9 (.string ByteArray.empty) 16 rfl Tryd.underlying34 info_str rfl (by decide) (fun k => w4.heap.size ≤ k) (fun k => k < w4.heap.size) (.slice (some ⟨w4.heap.size, 0, none⟩) 0 0) [] (strs (m.map (·.2))) Av m.length cv rfl rfl HO2.out (Row.made0 w4 _ _ (Nat.le_refl _)) (HRV4.out.alloc _) (fun k hk => by rw [World.size_alloc] at hk; omega) (by simp only [List.length_nil]; omega) ?_; intro v5 w5 hown hkp hob)
          | (at_builtin; refine wpList_app1 (W := w5) rfl _ _ 34 9 (.string ByteArray.empty) 16 rfl Tryd.underlying34 info_str rfl (by decide) (fun k => w4.heap.size ≤ k) v5 _ (.string (strB v)) rfl rfl rfl hown (fun k hk => by have h1 := hkp.size; rw [World.size_alloc] at h1; omega) (by simp only [List.length_append, List.length_nil, strs_length, List.length_map]; omega) ?_))
        intro v6 w6 hown6 hkp6 hob6
        have hk6 : Kept w4 w6 NoB := keptN hkp hown hkp6
        have hb6 := HB4.out.kept0 hk6
        obtain ⟨⟨d0, d1⟩, g0, g1⟩ := hb6.cells2
        have hyl6 := hb6.lt
        have hown6' : Row w6 9 (fun k => w4.heap.size ≤ k) v6 (strs (m.map (·.2) ++ [v])) := by rw [strs_append]; exact hown6
        have hy6 : v6.ownBlock ≠ some y := hown6.ne_blk hb6 (by decide)
        obtain ⟨A6, n6, c6, hv6⟩ := hown6.slice
        have HOW6 := Lib.hid hown6'
        have HK6 := Lib.hid hk6
        have HB6 := Lib.hid hb6
        have HY6 := Lib.hid hy6
        subst hv6
        clear hown hkp hob hown6 hkp6 hob6 hk6 hb6 hown6' hy6 b0 b1 r0 r1
        go_wp2_with fail
        go_ret
        refine ⟨rfl, ⟨_, _, HB6.out.set_ 1 _, ?_, ?_⟩, ?_⟩
        · rw [show (m ++ [(k, v)]).map (·.1) = m.map (·.1) ++ [k] by simp]
          exact ((HOWN4.out.kept0 HK6.out).far (p := ⟨y, 1, none⟩) HY2.out _).mono fun b _ h => Nat.le_trans hN h
        · rw [show (m ++ [(k, v)]).map (·.2) = m.map (·.2) ++ [v] by simp]
          exact (HOW6.out.far (p := ⟨y, 1, none⟩) HY6.out _).mono fun b _ h => by have := HS4.out; show N ≤ b; omega
        · exact ((((HK3.out.of_no (S := fun b => b = y)).trans HK4.out fun b hb => .inl hb).trans' HK6.out).setCell (p := ⟨y, 1, none⟩) (.inl rfl) _)
end Go.Proofs.YtcggpedebcamdaaDoor
