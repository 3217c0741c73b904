/- Transcripts: Read's walk. -/
import Derived.Test.YtammhfnolafknaaDoorRd
set_option linter.unusedVariables false
set_option linter.unusedSimpArgs false
namespace Go.Proofs.YtammhfnolafknaaDoor
open Go.RowKit Go.Shelf Go.Lib

theorem cutX_len (x : UInt8) (t : List UInt8) : (cutX x t).1.length ≤ t.length ∧ (cutX x t).2.1.length ≤ t.length := by
  rcases cutX_cases x t with ⟨a, r, h1, _, h2⟩ | ⟨_, h2⟩
  · rw [h2, h1]
    simp
    omega
  · rw [h2]
    simp
theorem readOne_three {s a b c : List UInt8} (h : pcs (cutX 10 s).1 = [a, b, c]) : readOne s = if b.length = 1 then
      match numD a 999999999, meantL c with
      | some n, some t => if 1 ≤ kindOf b ∧ textL [(n, kindOf b, t)] = s.take (s.length - (cutX 10 s).2.1.length) then some ((n, kindOf b, t), (cutX 10 s).2.1) else none
      | _, _ => none
    else none := by
  unfold readOne
  rw [h]
  rfl
theorem readOne_few {s : List UInt8} (h : (pcs (cutX 10 s).1).length < 3) : readOne s = none := by
  unfold readOne
  split
  · rename_i hp
    rw [hp] at h
    simp at h
  · rfl
theorem three_of {l : List (List UInt8)} (h3 : l.length ≤ 3) (h : ¬ l.length < 3) : ∃ a b c, l = [a, b, c] := by
  match l, h3, h with
  | [a, b, c], _, _ => exact ⟨a, b, c, rfl⟩
  | [], _, h => exact absurd (by simp) h
  | [_], _, h => exact absurd (by simp) h
  | [_, _], _, h => exact absurd (by simp) h
  | _ :: _ :: _ :: _ :: _, h3, _ => simp at h3
theorem kind_range (b : List UInt8) : -1 ≤ kindOf b ∧ kindOf b ≤ 5 := by
  unfold kindOf
  rcases index_spec [63, 62, 60, 61, 33] b with ⟨h1, _⟩ | ⟨i, h1, h2, h3, _⟩
  · omega
  · rw [h1]
    simp at h2
    omega
theorem readOne_if {t a b c rest : List UInt8} (h : readOne t = match numD a 999999999, meantL c with
      | some n, some x => if 1 ≤ kindOf b ∧ textL [(n, kindOf b, x)] = t.take (t.length - rest.length) then some ((n, kindOf b, x), rest) else none
      | _, _ => none) : readOne t = if (numD a 999999999).isSome = true ∧ (meantL c).isSome = true ∧ 1 ≤ kindOf b ∧ textL [((numD a 999999999).getD 0, kindOf b, (meantL c).getD [])] = t.take (t.length - rest.length) then some (((numD a 999999999).getD 0, kindOf b, (meantL c).getD []), rest) else none := by
  rw [h]
  cases numD a 999999999 with
  | none => simp
  | some n =>
    cases meantL c with
    | none => simp
    | some x => simp
theorem meantL_len (c : List UInt8) : ((meantL c).getD []).length ≤ c.length := by
  cases h : meantL c with
  | none => simp
  | some x =>
    unfold meantL at h
    rw [Option.bind_eq_some_iff] at h
    obtain ⟨y, _, h⟩ := h
    split at h
    · rename_i hs
      injection h with h
      rw [← h]
      have hl : ∀ l : List UInt8, l.length ≤ (showL l).length := fun l => by
        induction l with
        | nil => simp
        | cons c l ih =>
          rw [show showL (c :: l) = showC c ++ showL l by unfold showL; rw [List.flatMap_cons], List.length_append, List.length_cons]
          have : 1 ≤ (showC c).length := by unfold showC; split <;> simp
          omega
      have := hl (((split c [92, 120]).headD []) ++ y)
      rw [hs] at this
      exact this
    · cases h
theorem numD_range (a : List UInt8) : 0 ≤ (numD a 999999999).getD 0 ∧ (numD a 999999999).getD 0 ≤ 999999999 := by
  unfold numD
  split
  · rename_i h
    exact ⟨by simp, by simpa using h.2.2.2⟩
  · simp
set_option maxHeartbeats 8000000 in
set_option maxRecDepth 100000 in
theorem read_calls (w : World) (s : List UInt8) (hs : s.length ≤ 20000) (hm : MaxI w) (he : ErrT w) (hp : PowT w) :
    Calls Tryd.prog 15 #[.string (strB s)] w (RdPost w (readF s)) := by
  obtain ⟨R, hR⟩ : ∃ R, readF s = R := ⟨_, rfl⟩
  have HR := Lib.hid hR
  have HM := Lib.hid hm
  have HE := Lib.hid he
  have HP := Lib.hid hp
  rw [hR]
  clear hR hm he hp
  go_enter Tryd.func15, Tryd.ntmps15
  go_wp2_with fail
  go_loopg [0, 4] s.length (fun gk v0 v4 wr => RdS w s gk v0 v4 wr)
  case atStart => exact ⟨s, [], rfl, rfl, RowE.made0 _ _ (Nat.le_refl _), (Kept.refl _ _).alloc _, by cases readF s <;> simp, by simp⟩
  case round =>
    obtain ⟨t, es, hgk, rfl, hrow, hk, hrd, hlen⟩ := hrel
    have HG := Lib.hid hgk
    have HROW := Lib.hid hrow
    have HK := Lib.hid hk
    have hsr := hk.size
    obtain ⟨N, hN⟩ : ∃ N, es.length = N := ⟨_, rfl⟩
    have HN := Lib.hid hN
    rw [hN] at hlen
    obtain ⟨V4, c4, rfl, hc4, _⟩ := hrow.ent hN
    clear hgk hrow hk hN
    by_cases ht : t = []
    · subst ht
      rw [readF_nil] at hrd
      have hres : R = some es := by rw [← HR.out, hrd]; simp
      subst hres
      clear hrd
      go_wp2_with fail
      go_ret2
      exact ⟨HK.out, _, rfl, HROW.out⟩
    · have q1 : (t == []) = false := beq_eq_false_iff_ne.2 ht
      have q2 : (t != []) = true := by rw [bne, q1]; rfl
      have q3 : t.isEmpty = false := by cases t with | nil => exact absurd rfl ht | cons => rfl
      rw [readF_step ht] at hrd
      have hcl := cutX_len 10 t
      have hone := @readOne_few t
      have hthree := @readOne_three t
      have hless := fun (r : List UInt8) (e : Ent) => @readOne_less t r e
      obtain ⟨row, rest, ok, hcut⟩ : ∃ a b c, cutX 10 t = (a, b, c) := ⟨_, _, _, rfl⟩
      have hcc := cut_calls wr t 10 ⟨#[10]⟩ rfl (by omega) (HM.out.kept0 HK.out)
      rw [hcut] at hcc hcl hone hthree hless
      simp only at hcc hcl hone hthree hless
      have HCC := Lib.hid hcc
      have HRD := Lib.hid hrd
      have HL := Lib.hid hless
      have HT := Lib.hid ht
      clear hcc hcut hrd hless ht
      go_wp2_with fail
      refine HCC.out.mono ?_
      rintro en w1 ⟨rfl, hk⟩
      have HK1 := Lib.hid (HK.out.trans' hk)
      have HROW1 := Lib.hid (HROW.out.kept0 hk)
      clear hk HCC
      go_wp2_with fail
      refine (splitN_calls w1 row (by omega) (HM.out.kept0 HK1.out)).mono ?_
      rintro en w2 ⟨cw, rfl, hrw, hcw, hk⟩
      have HK2 := Lib.hid (HK1.out.trans' hk)
      have HROW2 := Lib.hid (HROW1.out.kept0 hk)
      clear hk
      by_cases h3 : (pcs row).length < 3
      · have hno := hone h3
        rw [hno] at HRD
        have hres : R = none := by rw [← HR.out, HRD.out]; rfl
        subst hres
        obtain ⟨L, hL⟩ : ∃ L, (pcs row).length = L := ⟨_, rfl⟩
        rw [hL] at h3 hcw hrw ⊢
        have t3 : (L : Int) < 3 := by omega
        clear hno hone hthree hrw hL
        go_wp2_with fail
        go_ret2
        exact ⟨HK2.out, rfl⟩
      · obtain ⟨a, b, c, hpc⟩ := three_of (pcs_len row) h3
        have hone' := hthree hpc
        rw [hpc] at hrw hcw ⊢
        have hal : a.length ≤ row.length := pcs_short (by rw [hpc]; simp)
        have hbl : b.length ≤ row.length := pcs_short (by rw [hpc]; simp)
        have hcl2 : c.length ≤ row.length := pcs_short (by rw [hpc]; simp)
        have HONE := Lib.hid hone'
        obtain ⟨ad, u0, hA, hu0, c0⟩ := hrw.at_ (k := 0) (by simp)
        obtain ⟨ad1, u1, hA1, hu1, c1⟩ := hrw.at_ (k := 1) (by simp)
        obtain ⟨ad2, u2, hA2, hu2, c2⟩ := hrw.at_ (k := 2) (by simp)
        injection hA with hA
        injection hA1 with hA1
        injection hA2 with hA2
        subst hA hA1 hA2
        rw [strs_at _ 0 (by simp)] at hu0
        rw [strs_at _ 1 (by simp)] at hu1
        rw [strs_at _ 2 (by simp)] at hu2
        injection hu0 with hu0
        injection hu1 with hu1
        injection hu2 with hu2
        subst hu0 hu1 hu2
        simp only [List.getElem_cons_zero, List.getElem_cons_succ, add_lit0] at c0 c1 c2
        clear h3 hone hthree hpc hrw hone'
        rw [show ([a, b, c] : List (List UInt8)).length = 3 from rfl] at hcw ⊢
        by_cases hb1 : b.length = 1
        · have tb : ((b.length : Int) == 1) = true := by rw [beq_iff_eq]; omega
          have tb' : ((b.length : Int) != 1) = false := by rw [bne, tb]; rfl
          rw [if_pos hb1] at HONE
          have hkr := kind_range b
          have hone2 := readOne_if HONE.out
          have hkc := fun W h => kind_calls W b h
          have hmc := fun W h => meant_calls W c (by omega) h
          have hnc := fun W h => number_any W a 999999999 (by omega) h
          have htl := meantL_len c
          obtain ⟨k, hkd⟩ : ∃ k, kindOf b = k := ⟨_, rfl⟩
          rw [hkd] at hkr hone2
          simp only [hkd] at hkc
          simp only [numA_val, numR] at hnc
          have hnr := numD_range a
          obtain ⟨nv, hnv⟩ : ∃ n, (numD a 999999999).getD 0 = n := ⟨_, rfl⟩
          obtain ⟨nb, hnb⟩ : ∃ n, (numD a 999999999).isSome = n := ⟨_, rfl⟩
          obtain ⟨tv, htv⟩ : ∃ n, (meantL c).getD [] = n := ⟨_, rfl⟩
          obtain ⟨tb2, htb⟩ : ∃ n, (meantL c).isSome = n := ⟨_, rfl⟩
          rw [hnv, hnb, htv, htb] at hone2
          simp only [hnv, hnb] at hnc
          simp only [htv, htb] at hmc
          rw [hnv] at hnr
          rw [htv] at htl
          have HKC := Lib.hid hkc
          have HMC := Lib.hid hmc
          have HNC := Lib.hid hnc
          have HO2 := Lib.hid hone2
          clear hone2 hkc hmc hnc hkd hnv hnb htv htb HONE hb1
          go_wp2_with fail
          refine (HNC.out _ (HE.out.kept0 HK2.out)).mono ?_
          rintro en w3 ⟨rfl, hk⟩
          have HK3 := Lib.hid (HK2.out.trans' hk)
          have HROW3 := Lib.hid (HROW2.out.kept0 hk)
          have c13 := hk.cell c1 (fun x => x)
          have c23 := hk.cell c2 (fun x => x)
          clear hk c0 c1 c2
          go_wp2_with fail
          refine (HMC.out _ (HM.out.kept0 HK3.out)).mono ?_
          rintro en w4 ⟨rfl, hk⟩
          have HK4 := Lib.hid (HK3.out.trans' hk)
          have HROW4 := Lib.hid (HROW3.out.kept0 hk)
          have c14 := hk.cell c13 (fun x => x)
          clear hk c13 c23
          go_wp2_with fail
          refine (HKC.out _ (HM.out.kept0 HK4.out)).mono ?_
          rintro en _ ⟨rfl, rfl⟩
          have hsz4 := HK4.out.size
          have HROWN := Lib.hid (HROW4.out.kept0 ((Kept.refl w4 NoB).alloc (.cells #[.int .i64 nv, .int .i64 k, .string (strB tv)] 35)))
          go_wp2_with (at_builtin; refine wpList_appE (W := w4.alloc (.cells #[.int .i64 nv, .int .i64 k, .string (strB tv)] 35)) rfl _ _ rfl (fun k => w.heap.size ≤ k) (fun b => b = w4.heap.size) (.slice V4 N c4) es [(nv, k, tv)] (some ⟨w4.heap.size, 0, none⟩) 1 1 rfl rfl HROWN.out (ent_new w4 (nv, k, tv)) (fun k hk => by simp only [World.size_alloc] at hk; omega) (by rw [HN.out]; omega) ?_; intro v1 w5 hown hkp hob)
          have HK5 := Lib.hid ((HK4.out.alloc (.cells #[.int .i64 nv, .int .i64 k, .string (strB tv)] 35)).trans hkp fun b hb => .inr (HROW.out.2 b hb))
          have HROW5 := Lib.hid hown
          obtain ⟨V5, c5, rfl, hc5, hent⟩ := hown.ent (n := N + 1) (by rw [List.length_append, HN.out]; rfl)
          obtain ⟨ad, rfl, hl1, e0, e1, e2⟩ := hent.last
          have HL1 := Lib.hid hl1
          clear hown hkp hob hent hl1 c14 HROW4 HROW3 HROW2 HROW1 HROWN
          dsimp only at e0 e1 e2
          obtain ⟨n1, hn1⟩ : ∃ n, N + 1 = n := ⟨_, rfl⟩
          rw [hn1] at hc5 ⊢
          have tn0 : n1 ≤ 20001 := by omega
          have tn1 : (0 : Int) ≤ (n1 : Int) - 1 := by omega
          have tn2 : (n1 : Int) - 1 < (n1 : Int) := by omega
          have tn3 : ((n1 : Int) - 1).toNat = N := by omega
          have tn4 : (1 : Int) ≤ (n1 : Int) := by omega
          have tn5 : n1 ≤ 9223372036854775807 := by omega
          have tn6 : ¬ c5 < n1 := by omega
          have HN1 := Lib.hid hn1
          clear hn1
          go_wp2_with fail
          go_simp
          go_wp2_with fail
          have HK6 := Lib.hid (HK5.out.alloc (.cells #[.int .i64 nv, .int .i64 k, .string (strB tv)] 35))
          have HROW6 := Lib.hid (HROW5.out.kept0 ((Kept.refl w5 NoB).alloc (.cells #[.int .i64 nv, .int .i64 k, .string (strB tv)] 35)))
          have HL6 := Lib.hid (HL1.out.kept0 ((Kept.refl w5 NoB).alloc (.cells #[.int .i64 nv, .int .i64 k, .string (strB tv)] 35)))
          have hb6 := Blk.new w5 35 #[.int .i64 nv, .int .i64 k, .string (strB tv)]
          obtain ⟨g6, hg6⟩ : ∃ g, w5.heap.size = g := ⟨_, rfl⟩
          rw [hg6] at hb6 ⊢
          generalize w5.alloc (.cells #[.int .i64 nv, .int .i64 k, .string (strB tv)] 35) = w6 at *
          have HB6 := Lib.hid hb6
          clear hb6 hg6 e0 e1 e2 HK5 HROW5 HL1 HK4 HK3 hsz4
          cases nb with
          | false =>
            have hno : R = none := by rw [← HR.out, HRD.out, HO2.out, if_neg (by simp)]; rfl
            subst hno
            go_quiet (fail)
            go_wp2_with fail
            go_ret2
            exact ⟨(HK6.out.drewN _), rfl⟩
          | true =>
            cases tb2 with
            | false =>
              have hno : R = none := by rw [← HR.out, HRD.out, HO2.out, if_neg (by simp)]; rfl
              subst hno
              go_quiet (fail)
              go_wp2_with fail
              go_ret2
              exact ⟨(HK6.out.drewN _), rfl⟩
            | true =>
              have c16 : w6.cell? ⟨g6, 1, none⟩ = some (.int .i64 k) := HB6.out.cell 1
              by_cases hk1 : k < 1
              · have hno : R = none := by rw [← HR.out, HRD.out, HO2.out, if_neg (by omega)]; rfl
                subst hno
                go_quiet (fail)
                go_wp2_with fail
                go_ret2
                exact ⟨(HK6.out.drewN _), rfl⟩
              · have hk1' : decide (k < 1) = false := by simp; omega
                have k0 : Kept w6 w6.drew NoB := (Kept.refl _ _).drew
                have c0' : w6.drew.cell? ⟨g6, 1, none⟩ = some (.int .i64 k) := k0.cell c16 (fun x => x)
                obtain ⟨d, hd⟩ : ∃ d, t.length - rest.length = d := ⟨_, rfl⟩
                have hw1 : IntKind.i64.wrap ((t.length : Int) - (rest.length : Int)) = (d : Int) := by
                  rw [show (t.length : Int) - (rest.length : Int) = (d : Int) by omega]
                  simp [IntKind.wrap, IntKind.bits, IntKind.signed]
                  omega
                have hw2 : IntKind.i64.wrap ((n1 : Int) - 1) = (N : Int) := by
                  rw [show (n1 : Int) - 1 = (N : Int) by have := HN1.out; omega]
                  simp [IntKind.wrap, IntKind.bits, IntKind.signed]
                  omega
                have hdl : (d : Int) ≤ ((strB t).size : Int) := by rw [strB_size]; omega
                have hdl' : (d : Int) ≤ (t.length : Int) := by omega
                have hd0 : (0 : Int) ≤ (d : Int) := by omega
                have hll := fun (W : World) => run_len_slice (P := Tryd.prog) (w := W) 22 3 (some ad) n1 c5 Tryd.underlying22
                have tc5 : ¬ c5 = N := by have := HN1.out; omega
                have tl1 : n1 - N = 1 := by have := HN1.out; omega
                have tn7 : (N : Int) ≤ (n1 : Int) := by omega
                have tn8 : (0 : Int) ≤ (N : Int) := by omega
                obtain ⟨X, hX⟩ : ∃ X, textL [(nv, k, tv)] = X := ⟨_, rfl⟩
                obtain ⟨Y, hY⟩ : ∃ Y, t.take d = Y := ⟨_, rfl⟩
                have hcutY : (strB t).extract 0 d = strB Y := by rw [strB_cut, List.drop_zero, Nat.sub_zero, hY]
                have htx : ∀ W, Kept w6 W NoB → Calls Tryd.prog 10 #[.slice (some (ad.add (N * 3))) 1 (c5 - N)] W fun en w' => en = .returned (.string (strB X)) ∧ Kept W w' NoB := fun W hk => by
                  rw [← hX]
                  exact text_calls W _ _ 1 _ 20000 [(nv, k, tv)] (HL6.out.kept0 hk) (by omega) (by omega) (fun e he => by
                    rw [List.mem_singleton] at he
                    subst he
                    refine ⟨?_, ?_, ?_, ?_, ?_⟩ <;> dsimp only <;> omega) (HP.out.kept0 (HK6.out.trans' hk))
                have HTX := Lib.hid htx
                have HXY := Lib.hid hX
                have HYY := Lib.hid hY
                rw [hX, hd, hY] at HO2
                clear htx hX hY hd tn1 tn2 tn3 tn4 HNC HMC HKC
                by_cases hxy : X = Y
                · have hone3 : readOne t = some ((nv, k, tv), rest) := by rw [HO2.out, if_pos ⟨rfl, rfl, by omega, hxy⟩]
                  have hlt := HL.out _ _ hone3 HT.out
                  have hrd2 : readF s = (readF rest).map ((es ++ [(nv, k, tv)]) ++ ·) := by
                    rw [HRD.out, hone3, Option.bind_some]
                    simp only
                    cases readF rest with
                    | none => rfl
                    | some z => simp
                  have HRD2 := Lib.hid hrd2
                  have HLT := Lib.hid hlt.2
                  have x1 : (X == Y) = true := by rw [hxy]; exact beq_self_eq_true _
                  have x2 : (X != Y) = false := by rw [bne, x1]; rfl
                  clear hxy hone3 hlt hrd2 HO2
                  go_region_held3 (fun w' => w'.cell? ⟨g6, 1, none⟩ = some (.int .i64 k) ∧ Kept w6 w' NoB) (first | exact ⟨c0', k0⟩ | exact ⟨cq, kq⟩) (first
                    | (go_at_call 10; (with_reducible refine (HTX.out _ k0).mono ?_); rintro en wq ⟨rfl, hq⟩; have cq := hq.cell c0' (fun x => x); have kq := k0.trans' hq))
                  have KQ := Lib.hid kq
                  clear cq kq hq c0' k0 c16
                  go_wp2_with fail
                  go_roundg rest.length
                  case measure => have := HG.out; have := HLT.out; omega
                  case rel => exact ⟨rest, es ++ [(nv, k, tv)], rfl, rfl, by have h := HROW6.out.kept0 KQ.out; rw [HN1.out] at h; exact h, HK6.out.trans' KQ.out, HRD2.out, by rw [List.length_append, HN.out]; have := HLT.out; simp only [List.length_singleton]; omega⟩
                · have hno : R = none := by rw [← HR.out, HRD.out, HO2.out, if_neg (fun h => hxy h.2.2.2)]; rfl
                  subst hno
                  have x1 : (X == Y) = false := beq_eq_false_iff_ne.2 hxy
                  have x2 : (X != Y) = true := by rw [bne, x1]; rfl
                  clear hxy HO2
                  go_region_held3 (fun w' => w'.cell? ⟨g6, 1, none⟩ = some (.int .i64 k) ∧ Kept w6 w' NoB) (first | exact ⟨c0', k0⟩ | exact ⟨cq, kq⟩) (first
                    | (go_at_call 10; (with_reducible refine (HTX.out _ k0).mono ?_); rintro en wq ⟨rfl, hq⟩; have cq := hq.cell c0' (fun x => x); have kq := k0.trans' hq))
                  have KQ := Lib.hid kq
                  clear cq kq hq c0' k0 c16
                  go_wp2_with fail
                  go_ret2
                  exact ⟨HK6.out.trans' KQ.out, rfl⟩
        · have tb : ((b.length : Int) == 1) = false := by rw [beq_eq_false_iff_ne]; omega
          have tb' : ((b.length : Int) != 1) = true := by rw [bne, tb]; rfl
          rw [if_neg hb1] at HONE
          have hres : R = none := by rw [← HR.out, HRD.out, HONE.out]; rfl
          subst hres
          clear hb1
          go_wp2_with fail
          go_ret2
          exact ⟨HK2.out, rfl⟩
end Go.Proofs.YtammhfnolafknaaDoor
