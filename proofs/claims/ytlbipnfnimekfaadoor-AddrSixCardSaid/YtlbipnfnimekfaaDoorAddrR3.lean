/- Addresses: the reference's Epsv. -/
import Derived.Test.YtlbipnfnimekfaaDoorAddrR2
import Derived.Test.YtlbipnfnimekfaaDoorAddrE
set_option linter.unusedVariables false
set_option linter.unusedSimpArgs false
namespace Go.Proofs.YtlbipnfnimekfaaDoor
open Go.RowKit Go.Shelf

theorem portE_num {d : UInt8} {r : List UInt8} (h : numD (r.takeWhile digC) 65535 = none) : portE d r = none := by
  unfold portE
  rw [h]
  split
  · split <;> rfl
  · rfl
theorem portE_long {d : UInt8} {r : List UInt8} (h : ¬ (r.takeWhile digC).length ≤ 5) : portE d r = none := by
  unfold portE
  split
  · split
    · split
      · rw [if_neg]; rintro ⟨h', _⟩; exact h h'
      · rfl
    · rfl
  · rfl
theorem portE_zero {d : UInt8} {r : List UInt8} (h : numD (r.takeWhile digC) 65535 = some 0) : portE d r = none := by
  unfold portE
  rw [h]
  split
  · split
    · simp
    · rfl
  · rfl
theorem portE_short {d : UInt8} {r : List UInt8} (h : (r.dropWhile digC).length < 2) : portE d r = none := by
  unfold portE
  split
  · rename_i e x t hdr
    rw [hdr] at h
    simp at h
    omega
  · rfl
theorem portE_sign {d e x : UInt8} {r t : List UInt8} (hd : r.dropWhile digC = e :: x :: t) (h : ¬ (e = d ∧ x = 41)) : portE d r = none := by
  unfold portE
  rw [hd]
  simp only
  rw [if_neg h]
theorem portE_fine {d : UInt8} {r t : List UInt8} {v : Int} (hd : r.dropWhile digC = d :: 41 :: t) (hn : numD (r.takeWhile digC) 65535 = some v) (h5 : (r.takeWhile digC).length ≤ 5) (h0 : v ≠ 0) : portE d r = some v := by
  unfold portE
  rw [hd, hn]
  simp [h5, h0]
def ReS (w0 : World) (a gk : Nat) (v4 : Value) (wr : World) : Prop := ∃ j, j ≤ a ∧ gk = a - j ∧ v4 = .int .i64 (j : Int) ∧ w0 = wr
theorem lead40 (L : List UInt8) : ∀ j, (h : j < (L.takeWhile fun c => c != 40).length) → ∃ c, L[j]? = some c ∧ c ≠ 40 := by
  intro j h
  have hp := List.takeWhile_prefix (l := L) fun c => c != 40
  have he : L[j]? = (L.takeWhile fun c => c != 40)[j]? := by
    obtain ⟨t, ht⟩ := hp
    conv => lhs; rw [← ht]
    rw [List.getElem?_append_left h]
  refine ⟨_, he.trans (List.getElem?_eq_getElem h), ?_⟩
  have := List.all_eq_true.1 (List.all_takeWhile (p := fun c : UInt8 => c != 40) (l := L)) _ (List.getElem_mem h)
  simpa using this
theorem end40 (L : List UInt8) (h : (L.takeWhile fun c => c != 40).length < L.length) : L[(L.takeWhile fun c => c != 40).length]? = some 40 := by
  have hd := drop_takeWhile (fun c => c != 40) L
  cases hr : L.dropWhile fun c => c != 40 with
  | nil =>
    rw [hr] at hd
    have := congrArg List.length hd
    rw [List.length_drop] at this
    simp at this
    omega
  | cons c r =>
    have hc : c = 40 := by
      have hh := List.head?_dropWhile_not (p := fun c : UInt8 => c != 40) (l := L)
      rw [hr] at hh
      simpa using hh
    rw [hr, hc] at hd
    have h2 := List.getElem?_drop (xs := L) (i := (L.takeWhile fun c => c != 40).length) (j := 0)
    rw [hd] at h2
    simpa using h2.symm
set_option maxHeartbeats 8000000 in
set_option maxRecDepth 100000 in
theorem refEpsv_calls (w : World) (L : List UInt8) (hl : L.length ≤ 1099511627) :
    Calls Tryd.prog 16 #[.string (strB L)] w (EpsvPost w L) := by
  obtain ⟨B, hB⟩ : ∃ B, strB L = B := ⟨_, rfl⟩
  have hsz : B.size = L.length := by rw [← hB, strB_size]
  obtain ⟨res, hres⟩ : ∃ r, epsvL L = r := ⟨_, rfl⟩
  have hrd := hres
  unfold epsvL at hrd
  have hlead := lead40 L
  have hend := end40 L
  have hdrop := drop_takeWhile (fun c => c != 40) L
  have hal : (L.takeWhile fun c => c != 40).length ≤ L.length := (List.takeWhile_prefix (l := L) fun c => c != 40).length_le
  obtain ⟨a, ha⟩ : ∃ a, (L.takeWhile fun c => c != 40).length = a := ⟨_, rfl⟩
  rw [ha] at hlead hend hdrop hal
  rw [← hdrop] at hrd
  obtain ⟨n, hn⟩ : ∃ n, L.length = n := ⟨_, rfl⟩
  rw [hB]
  have hget : ∀ j c, L[j]? = some c → ∀ h : j < B.size, (B[j]'h).toNat = c.toNat := fun j c hj h => by
    subst hB
    obtain ⟨hlt, hh⟩ := List.getElem?_eq_some_iff.1 hj
    rw [strB_getI, hh]
  have HGET := Lib.hid hget
  have HL := Lib.hid hl
  have HB := Lib.hid hB
  have HLEAD := Lib.hid hlead
  have HEND := Lib.hid hend
  have HRD := Lib.hid hrd
  have HRES := Lib.hid hres
  rw [hn] at hsz hal hl
  have HN := Lib.hid hn
  clear hget hB hlead hend hdrop hres hrd hn ha
  go_enter Tryd.func16, Tryd.ntmps16
  go_wp2_with fail
  have HB0 := Lib.hid (Blk.new w 29 #[.int .i64 0, .int .i64 0, .int .i64 0, .int .i64 0, .int .i64 0])
  have HK0 := Lib.hid ((Kept.refl w NoB).alloc (.cells #[.int .i64 0, .int .i64 0, .int .i64 0, .int .i64 0, .int .i64 0] 29))
  generalize w.alloc (.cells #[.int .i64 0, .int .i64 0, .int .i64 0, .int .i64 0, .int .i64 0] 29) = w1 at *
  go_loopg [4] a (fun gk v4 wr => ReS w1 a gk v4 wr)
  case atStart => exact ⟨0, Nat.zero_le _, rfl, rfl, rfl⟩
  case round =>
    obtain ⟨j, hj, hgk, rfl, rfl⟩ := hrel
    have HG := Lib.hid hgk
    clear hgk
    rcases Nat.lt_or_ge j a with hlt | hge
    · obtain ⟨c, hc, hne⟩ := HLEAD.out j hlt
      have y0 : j < B.size := by omega
      obtain ⟨x, hx⟩ : ∃ x : Nat, c.toNat = x := ⟨_, rfl⟩
      have i0 : (B[j]'y0).toNat = x := (HGET.out j c hc y0).trans hx
      have hx40 : x ≠ 40 := fun e => hne (UInt8.toNat_inj.1 (by rw [hx, e]; rfl))
      have t40 : ((x : Int) != 40) = true := by simp; omega
      have tj : (j : Int) < (n : Int) := by omega
      clear hc hne hx hx40
      go_wp2_with fail
      go_roundg (a - (j + 1))
      case measure => have := HG.out; omega
      case rel => exact ⟨j + 1, hlt, rfl, by go_num, rfl⟩
    · obtain rfl : j = a := by omega
      have c0 : w1.cell? ⟨w.heap.size, 0, none⟩ = some (.int .i64 0) := HB0.out.cell 0
      have c1 : w1.cell? ⟨w.heap.size, 1, none⟩ = some (.int .i64 0) := HB0.out.cell 1
      have c2 : w1.cell? ⟨w.heap.size, 2, none⟩ = some (.int .i64 0) := HB0.out.cell 2
      have c3 : w1.cell? ⟨w.heap.size, 3, none⟩ = some (.int .i64 0) := HB0.out.cell 3
      have c4 : w1.cell? ⟨w.heap.size, 4, none⟩ = some (.int .i64 0) := HB0.out.cell 4
      have z0 := HB0.out.frozen 0
      have z1 := HB0.out.frozen 1
      have z2 := HB0.out.frozen 2
      have z3 := HB0.out.frozen 3
      have z4 := HB0.out.frozen 4
      have hgl := HB0.out.lt
      obtain ⟨j1, hj1⟩ : ∃ m, j + 1 = m := ⟨_, rfl⟩
      have tq1 : (j : Int) + 1 = (j1 : Int) := by omega
      have HJ1 := Lib.hid hj1
      obtain ⟨j2, hj2⟩ : ∃ m, j + 2 = m := ⟨_, rfl⟩
      have tq2 : (j : Int) + 2 = (j2 : Int) := by omega
      have HJ2 := Lib.hid hj2
      obtain ⟨j3, hj3⟩ : ∃ m, j + 3 = m := ⟨_, rfl⟩
      have tq3 : (j : Int) + 3 = (j3 : Int) := by omega
      have HJ3 := Lib.hid hj3
      obtain ⟨j4, hj4⟩ : ∃ m, j + 4 = m := ⟨_, rfl⟩
      have tq4 : (j : Int) + 4 = (j4 : Int) := by omega
      have HJ4 := Lib.hid hj4
      rcases Nat.lt_or_eq_of_le hal with hjn | hjn
      · have t0 : (j : Int) < (n : Int) := by omega
        have hc40 := HEND.out (by rw [HN.out]; exact hjn)
        have y0 : j < B.size := by omega
        have i0 : (B[j]'y0).toNat = 40 := HGET.out j 40 hc40 y0
        rcases Nat.lt_or_ge j4 n with hj4n | hj4n
        · have t4 : ¬ (n : Int) ≤ (j4 : Int) := by omega
          have hLl := HN.out
          have b1 : j1 < L.length := by omega
          have b2 : j2 < L.length := by omega
          have b3 : j3 < L.length := by omega
          have b4 : j4 < L.length := by omega
          have hdr : L.drop j = 40 :: L[j1] :: L[j2] :: L[j3] :: L.drop j4 := by
            have b0 : j < L.length := by omega
            rw [List.drop_eq_getElem_cons b0]
            have e0 : L[j] = 40 := by rw [List.getElem?_eq_getElem b0] at hc40; exact Option.some.inj hc40
            rw [e0]
            subst hj1 hj2 hj3 hj4
            rw [List.drop_eq_getElem_cons b1, List.drop_eq_getElem_cons b2, List.drop_eq_getElem_cons b3]
          have hT := HRD.out
          rw [hdr] at hT
          simp only at hT
          have y1 : j1 < B.size := by omega
          have g1 : L[j1]? = some L[j1] := List.getElem?_eq_getElem b1
          have i1 : (B[j1]'y1).toNat = L[j1].toNat := HGET.out j1 _ g1 y1
          obtain ⟨d, hd1⟩ : ∃ c, L[j1] = c := ⟨_, rfl⟩
          rw [hd1] at hT g1 i1
          obtain ⟨x1, hx1⟩ : ∃ x : Nat, d.toNat = x := ⟨_, rfl⟩
          rw [hx1] at i1
          have hxb1 : x1 < 256 := by rw [← hx1]; exact UInt8.toNat_lt _
          have y2 : j2 < B.size := by omega
          have g2 : L[j2]? = some L[j2] := List.getElem?_eq_getElem b2
          have i2 : (B[j2]'y2).toNat = L[j2].toNat := HGET.out j2 _ g2 y2
          obtain ⟨d2, hd2⟩ : ∃ c, L[j2] = c := ⟨_, rfl⟩
          rw [hd2] at hT g2 i2
          obtain ⟨x2, hx2⟩ : ∃ x : Nat, d2.toNat = x := ⟨_, rfl⟩
          rw [hx2] at i2
          have hxb2 : x2 < 256 := by rw [← hx2]; exact UInt8.toNat_lt _
          have y3 : j3 < B.size := by omega
          have g3 : L[j3]? = some L[j3] := List.getElem?_eq_getElem b3
          have i3 : (B[j3]'y3).toNat = L[j3].toNat := HGET.out j3 _ g3 y3
          obtain ⟨d3, hd3⟩ : ∃ c, L[j3] = c := ⟨_, rfl⟩
          rw [hd3] at hT g3 i3
          obtain ⟨x3, hx3⟩ : ∃ x : Nat, d3.toNat = x := ⟨_, rfl⟩
          rw [hx3] at i3
          have hxb3 : x3 < 256 := by rw [← hx3]; exact UInt8.toNat_lt _
          obtain ⟨r, hr⟩ : ∃ r, L.drop j4 = r := ⟨_, rfl⟩
          rw [hr] at hT
          rw [show epsvT (d :: d2 :: d3 :: r) = if 33 ≤ d.toNat ∧ d.toNat ≤ 126 ∧ digC d = false ∧ d2 = d ∧ d3 = d then portE d r else none from rfl, hx1] at hT
          have e2 : d2 = d ↔ x2 = x1 := by rw [← hx1, ← hx2]; exact ⟨fun h => by rw [h], fun h => UInt8.toNat_inj.1 h⟩
          have e3 : d3 = d ↔ x3 = x1 := by rw [← hx1, ← hx3]; exact ⟨fun h => by rw [h], fun h => UInt8.toNat_inj.1 h⟩
          simp only [e2, e3] at hT
          have hdd : digAt L j1 = digC d := by unfold digAt; rw [g1]
          have HR := Lib.hid hr
          have HX1 := Lib.hid hx1
          have hj1l : j1 ≤ 1099511627 := by omega
          have hj4l : j4 ≤ L.length := by omega
          have tn1 : (j1 : Int) < (n : Int) := by omega
          have tz1 : j1 < n := by omega
          have tn2 : (j2 : Int) < (n : Int) := by omega
          have tz2 : j2 < n := by omega
          have tn3 : (j3 : Int) < (n : Int) := by omega
          have tz3 : j3 < n := by omega
          clear hdr hc40 e2 e3 hr hx1 hx2 hx3 hd1 hd2 hd3 g1 g2 g3 b1 b2 b3 b4 hLl hj1 hj2 hj3 hj4
          by_cases q1 : x1 < 33
          · have hn0 : res = none := by rw [← hT, if_neg (by omega)]
            have HN0 := Lib.hid hn0
            have u1 : (x1 : Int) < 33 := by omega
            clear hn0 hT hdd
            go_wp2_with fail
            refine bodyPost_ret (results_cell_row2 rfl _ _ w.heap.size 29 _ (0, 0) _ (.bool false) rfl rfl (blk5 HB0.out 0 0 0 0 0) Tryd.underlying29 rfl (by kernel_rfl)) rfl ?_
            exact ⟨by rw [HRES.out, HN0.out]; rfl, kept5 HK0.out _ _ _ _ _⟩
          have u1 : ¬ (x1 : Int) < 33 := by omega
          have u1' : decide ((x1 : Int) < 33) = false := by simp; omega
          by_cases q2 : 126 < x1
          · have hn0 : res = none := by rw [← hT, if_neg (by omega)]
            have HN0 := Lib.hid hn0
            have u2 : (126 : Int) < (x1 : Int) := by omega
            clear hn0 hT hdd
            go_wp2_with fail
            refine bodyPost_ret (results_cell_row2 rfl _ _ w.heap.size 29 _ (0, 0) _ (.bool false) rfl rfl (blk5 HB0.out 0 0 0 0 0) Tryd.underlying29 rfl (by kernel_rfl)) rfl ?_
            exact ⟨by rw [HRES.out, HN0.out]; rfl, kept5 HK0.out _ _ _ _ _⟩
          have u2 : ¬ (126 : Int) < (x1 : Int) := by omega
          have u2' : decide ((126 : Int) < (x1 : Int)) = false := by simp; omega
          cases hdc : digC d with
          | true =>
            have hn0 : res = none := by rw [← hT, if_neg (by rw [hdc]; simp)]
            have HN0 := Lib.hid hn0
            have HDD := Lib.hid (hdd.trans hdc)
            clear hn0 hT hdd hdc
            go_wp2_with fail
            refine (dig_calls w1 L B HB.out HL.out j1 hj1l true HDD.out).mono ?_
            rintro en _ ⟨rfl, rfl⟩
            go_wp2_with fail
            refine bodyPost_ret (results_cell_row2 rfl _ _ w.heap.size 29 _ (0, 0) _ (.bool false) rfl rfl (blk5 HB0.out 0 0 0 0 0) Tryd.underlying29 rfl (by kernel_rfl)) rfl ?_
            exact ⟨by rw [HRES.out, HN0.out]; rfl, kept5 HK0.out _ _ _ _ _⟩
          | false =>
            have HDD := Lib.hid (hdd.trans hdc)
            have HDC := Lib.hid hdc
            by_cases q4 : x2 = x1
            · have u4 : ((x2 : Int) != (x1 : Int)) = false := by simp; omega
              have u4' : ((x2 : Int) == (x1 : Int)) = true := by simp; omega
              by_cases q5 : x3 = x1
              · have u5 : ((x3 : Int) != (x1 : Int)) = false := by simp; omega
                have u5' : ((x3 : Int) == (x1 : Int)) = true := by simp; omega
                have hP : portE d r = res := by rw [← hT, if_pos ⟨by omega, by omega, hdc, q4, q5⟩]
                have HP := Lib.hid hP
                have hx41 : x1 ≠ 41 ∨ x1 = 41 := by omega
                have hnb := numb_calls w1 L B HB.out HL.out j4 hj4l
                rw [HR.out] at hnb
                have hdw := drop_takeWhile digC r
                have hWl : (r.takeWhile digC).length ≤ n - j4 := by
                  have := (List.takeWhile_prefix (l := r) digC).length_le
                  rw [← HR.out, List.length_drop, HN.out] at this
                  rw [← HR.out]
                  exact this
                have pn := @portE_num d r
                have pl := @portE_long d r
                have pz := @portE_zero d r
                have ps := @portE_short d r
                have pg := fun e x t => @portE_sign d e x r t
                have pf := fun t v => @portE_fine d r t v
                rw [← hdw] at ps pg pf
                obtain ⟨W, hW⟩ : ∃ W, r.takeWhile digC = W := ⟨_, rfl⟩
                rw [hW] at hnb hWl pn pl pz ps pg pf
                have hdw2 : r.drop W.length = L.drop (j4 + W.length) := by rw [← HR.out, List.drop_drop]
                rw [hdw2] at ps pg pf
                obtain ⟨K, hK⟩ : ∃ K, j4 + W.length = K := ⟨_, rfl⟩
                rw [hK] at hnb ps pg pf
                have hKn : K ≤ n := by omega
                rw [HP.out] at pn pl pz ps pg pf
                have HPN := Lib.hid pn
                have HPL := Lib.hid pl
                have HPZ := Lib.hid pz
                have HPS := Lib.hid ps
                have HPG := Lib.hid pg
                have HPF := Lib.hid pf
                have HNB := Lib.hid hnb
                clear pn pl pz ps pg pf hnb hdw hdw2 hW hK hP hT hdd hdc q4 q5
                go_wp2_with fail
                refine (dig_calls w1 L B HB.out HL.out j1 hj1l false HDD.out).mono ?_
                rintro en _ ⟨rfl, rfl⟩
                go_wp2_with fail
                refine HNB.out.mono ?_
                rintro en _ ⟨rfl, rfl⟩
                go_wp2_with fail
                refine (refNumber_calls w1 W 65535 (by omega)).mono ?_
                rintro en _ ⟨rfl, rfl⟩
                cases hnum : numD W 65535 with
                | none =>
                  rw [show numR none = Value.tuple #[.int .i64 0, .bool false] from rfl]
                  have HN0 := Lib.hid (HPN.out hnum)
                  clear hnum
                  go_wp2_with fail
                  refine bodyPost_ret (results_cell_row2 rfl _ _ w.heap.size 29 _ (0, 0) _ (.bool false) rfl rfl (blk5 HB0.out 0 0 0 0 0) Tryd.underlying29 rfl (by kernel_rfl)) rfl ?_
                  exact ⟨by rw [HRES.out, HN0.out]; rfl, kept5 HK0.out _ _ _ _ _⟩
                | some v =>
                  rw [show numR (some v) = Value.tuple #[.int .i64 v, .bool true] from rfl]
                  by_cases v5 : W.length ≤ 5
                  · have t5 : ¬ (5 : Int) < (W.length : Int) := by omega
                    have t5' : decide ((5 : Int) < (W.length : Int)) = false := by simp; omega
                    by_cases v0 : v = 0
                    · subst v0
                      have HN0 := Lib.hid (HPZ.out hnum)
                      clear hnum
                      go_wp2_with fail
                      refine bodyPost_ret (results_cell_row2 rfl _ _ w.heap.size 29 _ (0, 0) _ (.bool false) rfl rfl (blk5 HB0.out 0 0 0 0 0) Tryd.underlying29 rfl (by kernel_rfl)) rfl ?_
                      exact ⟨by rw [HRES.out, HN0.out]; rfl, kept5 HK0.out _ _ _ _ _⟩
                    · have t00 : (v == 0) = false := by simpa using v0
                      obtain ⟨K1, hK1⟩ : ∃ m, K + 1 = m := ⟨_, rfl⟩
                      have tK1 : (K : Int) + 1 = (K1 : Int) := by omega
                      rcases Nat.lt_or_ge K1 n with hK1n | hK1n
                      · have s0 : ¬ (n : Int) ≤ (K1 : Int) := by omega
                        have s0' : decide ((n : Int) ≤ (K1 : Int)) = false := by simp; omega
                        have hLl := HN.out
                        have f0 : K < L.length := by omega
                        have f1 : K1 < L.length := by omega
                        have f2 : K + 1 < L.length := by omega
                        have hdk : L.drop K = L[K] :: L[K1] :: L.drop (K + 1 + 1) := by
                          rw [List.drop_eq_getElem_cons f0, List.drop_eq_getElem_cons f2]
                          subst hK1
                          rfl
                        have p0 : K < B.size := by omega
                        have p1 : K1 < B.size := by omega
                        have sg0 : (B[K]'p0).toNat = L[K].toNat := HGET.out K _ (List.getElem?_eq_getElem f0) p0
                        have sg1 : (B[K1]'p1).toNat = L[K1].toNat := HGET.out K1 _ (List.getElem?_eq_getElem f1) p1
                        have hpg := HPG.out _ _ _ hdk
                        obtain ⟨e, he⟩ : ∃ c, L[K] = c := ⟨_, rfl⟩
                        obtain ⟨f, hf⟩ : ∃ c, L[K1] = c := ⟨_, rfl⟩
                        rw [he] at hpg sg0 hdk
                        rw [hf] at hpg sg1 hdk
                        obtain ⟨xe, hxe⟩ : ∃ x : Nat, e.toNat = x := ⟨_, rfl⟩
                        obtain ⟨xf, hxf⟩ : ∃ x : Nat, f.toNat = x := ⟨_, rfl⟩
                        rw [hxe] at sg0
                        rw [hxf] at sg1
                        have tk0 : (K : Int) < (n : Int) := by omega
                        have tk1 : (K1 : Int) < (n : Int) := by omega
                        have tkn0 : K < n := by omega
                        have tkn1 : K1 < n := by omega
                        by_cases w0e : xe = x1
                        · have s1 : ((xe : Int) != (x1 : Int)) = false := by simp; omega
                          have s1' : ((xe : Int) == (x1 : Int)) = true := by simp; omega
                          have hed : e = d := UInt8.toNat_inj.1 (by rw [hxe, w0e]; exact HX1.out.symm)
                          by_cases w1f : xf = 41
                          · have s2 : ((xf : Int) != 41) = false := by simp; omega
                            have s2' : ((xf : Int) == 41) = true := by simp; omega
                            have hf41 : f = 41 := UInt8.toNat_inj.1 (by rw [hxf, w1f]; rfl)
                            rw [hed, hf41] at hdk
                            have HN0 := Lib.hid (HPF.out _ _ hdk hnum v5 v0)
                            clear hnum hdk hpg hed hf41 hxe hxf he hf w0e w1f f0 f1 f2 hLl hK1 v5 v0
                            go_wp2_with fail
                            refine bodyPost_ret (results_cell_row2 rfl _ _ w.heap.size 29 _ (0, 0) _ (.bool true) rfl rfl (blk5 HB0.out 0 0 0 0 v) Tryd.underlying29 rfl (by kernel_rfl)) rfl ?_
                            exact ⟨by rw [HRES.out, HN0.out]; rfl, kept5 HK0.out _ _ _ _ _⟩
                          · have s2 : ((xf : Int) != 41) = true := by simp; omega
                            have s2' : ((xf : Int) == 41) = false := by simp; omega
                            have HN0 := Lib.hid (hpg (by rintro ⟨_, h⟩; rw [h] at hxf; exact w1f hxf.symm))
                            clear hnum hdk hpg hed hxe hxf he hf w0e w1f f0 f1 f2 hLl hK1 v5 v0
                            go_wp2_with fail
                            refine bodyPost_ret (results_cell_row2 rfl _ _ w.heap.size 29 _ (0, 0) _ (.bool false) rfl rfl (blk5 HB0.out 0 0 0 0 0) Tryd.underlying29 rfl (by kernel_rfl)) rfl ?_
                            exact ⟨by rw [HRES.out, HN0.out]; rfl, kept5 HK0.out _ _ _ _ _⟩
                        · have s1 : ((xe : Int) != (x1 : Int)) = true := by simp; omega
                          have s1' : ((xe : Int) == (x1 : Int)) = false := by simp; omega
                          have HN0 := Lib.hid (hpg (by rintro ⟨h, _⟩; rw [h, HX1.out] at hxe; exact w0e hxe.symm))
                          clear hnum hdk hpg hxe hxf he hf w0e f0 f1 f2 hLl hK1 v5 v0
                          go_wp2_with fail
                          refine bodyPost_ret (results_cell_row2 rfl _ _ w.heap.size 29 _ (0, 0) _ (.bool false) rfl rfl (blk5 HB0.out 0 0 0 0 0) Tryd.underlying29 rfl (by kernel_rfl)) rfl ?_
                          exact ⟨by rw [HRES.out, HN0.out]; rfl, kept5 HK0.out _ _ _ _ _⟩
                      · have s0 : (n : Int) ≤ (K1 : Int) := by omega
                        have HN0 := Lib.hid (HPS.out (by rw [List.length_drop, HN.out]; omega))
                        clear hnum hK1 v5 v0
                        go_wp2_with fail
                        refine bodyPost_ret (results_cell_row2 rfl _ _ w.heap.size 29 _ (0, 0) _ (.bool false) rfl rfl (blk5 HB0.out 0 0 0 0 0) Tryd.underlying29 rfl (by kernel_rfl)) rfl ?_
                        exact ⟨by rw [HRES.out, HN0.out]; rfl, kept5 HK0.out _ _ _ _ _⟩
                  · have t5 : (5 : Int) < (W.length : Int) := by omega
                    have HN0 := Lib.hid (HPL.out v5)
                    clear hnum
                    go_wp2_with fail
                    refine bodyPost_ret (results_cell_row2 rfl _ _ w.heap.size 29 _ (0, 0) _ (.bool false) rfl rfl (blk5 HB0.out 0 0 0 0 0) Tryd.underlying29 rfl (by kernel_rfl)) rfl ?_
                    exact ⟨by rw [HRES.out, HN0.out]; rfl, kept5 HK0.out _ _ _ _ _⟩
              · have u5 : ((x3 : Int) != (x1 : Int)) = true := by simp; omega
                have u5' : ((x3 : Int) == (x1 : Int)) = false := by simp; omega
                have hn0 : res = none := by rw [← hT, if_neg (by omega)]
                have HN0 := Lib.hid hn0
                clear hn0 hT hdd hdc
                go_wp2_with fail
                refine (dig_calls w1 L B HB.out HL.out j1 hj1l false HDD.out).mono ?_
                rintro en _ ⟨rfl, rfl⟩
                go_wp2_with fail
                refine bodyPost_ret (results_cell_row2 rfl _ _ w.heap.size 29 _ (0, 0) _ (.bool false) rfl rfl (blk5 HB0.out 0 0 0 0 0) Tryd.underlying29 rfl (by kernel_rfl)) rfl ?_
                exact ⟨by rw [HRES.out, HN0.out]; rfl, kept5 HK0.out _ _ _ _ _⟩
            · have u4 : ((x2 : Int) != (x1 : Int)) = true := by simp; omega
              have u4' : ((x2 : Int) == (x1 : Int)) = false := by simp; omega
              have hn0 : res = none := by rw [← hT, if_neg (by omega)]
              have HN0 := Lib.hid hn0
              clear hn0 hT hdd hdc
              go_wp2_with fail
              refine (dig_calls w1 L B HB.out HL.out j1 hj1l false HDD.out).mono ?_
              rintro en _ ⟨rfl, rfl⟩
              go_wp2_with fail
              refine bodyPost_ret (results_cell_row2 rfl _ _ w.heap.size 29 _ (0, 0) _ (.bool false) rfl rfl (blk5 HB0.out 0 0 0 0 0) Tryd.underlying29 rfl (by kernel_rfl)) rfl ?_
              exact ⟨by rw [HRES.out, HN0.out]; rfl, kept5 HK0.out _ _ _ _ _⟩
        · have t4 : (n : Int) ≤ (j4 : Int) := by omega
          have hn0 : res = none := by
            rw [← HRD.out]
            cases hdr : L.drop j with
            | nil => rfl
            | cons c T =>
              have := congrArg List.length hdr
              rw [List.length_drop, HN.out, List.length_cons] at this
              exact epsvT_short (by omega)
          have HN0 := Lib.hid hn0
          clear hn0 hc40 hj1 hj2 hj3 hj4
          go_wp2_with fail
          refine bodyPost_ret (results_cell_row2 rfl _ _ w.heap.size 29 _ (0, 0) _ (.bool false) rfl rfl (blk5 HB0.out 0 0 0 0 0) Tryd.underlying29 rfl (by kernel_rfl)) rfl ?_
          exact ⟨by rw [HRES.out, HN0.out]; rfl, kept5 HK0.out _ _ _ _ _⟩
      · have t0 : ¬ (j : Int) < (n : Int) := by omega
        have t0' : decide ((j : Int) < (n : Int)) = false := by simp; omega
        have t4 : (n : Int) ≤ (j4 : Int) := by omega
        have hn0 : res = none := by
          rw [← HRD.out, List.drop_eq_nil_of_le (by rw [HN.out]; omega)]
        have HN0 := Lib.hid hn0
        clear hn0 hj1 hj2 hj3 hj4 hjn
        go_wp2_with fail
        refine bodyPost_ret (results_cell_row2 rfl _ _ w.heap.size 29 _ (0, 0) _ (.bool false) rfl rfl (blk5 HB0.out 0 0 0 0 0) Tryd.underlying29 rfl (by kernel_rfl)) rfl ?_
        exact ⟨by rw [HRES.out, HN0.out]; rfl, kept5 HK0.out _ _ _ _ _⟩
end Go.Proofs.YtlbipnfnimekfaaDoor
