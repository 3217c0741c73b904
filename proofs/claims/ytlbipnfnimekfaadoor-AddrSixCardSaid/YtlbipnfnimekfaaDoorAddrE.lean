/- Addresses: the program's Epsv. -/
import Derived.Test.YtlbipnfnimekfaaDoorAddrV
import Derived.Test.YtlbipnfnimekfaaDoorAddrEP
set_option linter.unusedVariables false
set_option linter.unusedSimpArgs false
namespace Go.Proofs.YtlbipnfnimekfaaDoor
open Go.RowKit Go.Shelf

theorem cut_calls (w : World) (l : List UInt8) (x : UInt8) (X : ByteArray) (hX : X = strB [x]) (hl : l.length ≤ 1099511627) (hm : MaxI w) :
    Calls Tryd.prog 21 #[.string (strB l), .string X] w fun en w' => en = .returned (.tuple #[.string (strB (cutX x l).1), .string (strB (cutX x l).2.1), .bool (cutX x l).2.2]) ∧ Kept w w' NoB := by
  subst hX
  obtain ⟨m, hm⟩ := hm
  refine (Any.strings_Cut shLays145 (strB l) (strB [x]) m w (by rw [strB_size]; omega) hm).mono fun en w' h => ⟨?_, ?_⟩
  · rw [h.1, strB_toList, strB_toList, cutB_X]
    rfl
  · obtain ⟨n, rfl⟩ := h.2
    exact (Kept.refl _ _).drewN n
theorem pre41_calls (w : World) (l : List UInt8) (b : Bool) (hb : Lib.hasPrefix l [41] = b) :
    Calls Tryd.prog 24 #[.string (strB l), .string ⟨#[41]⟩] w fun en w' => en = .returned (.bool b) ∧ w' = w := by
  have h := Any.strings_HasPrefix shLays99 (strB l) ⟨#[41]⟩ w
  rw [strB_toList] at h
  rw [← hb]
  exact h
def digI (c : UInt8) : Int := Lib.indexByte [48, 49, 50, 51, 52, 53, 54, 55, 56, 57] c
theorem digI_dig : ∀ k : Fin 256, decide (0 ≤ digI (UInt8.ofNat k.val)) = digC (UInt8.ofNat k.val) := by decide +kernel
theorem digI_digC (c : UInt8) : decide (0 ≤ digI c) = digC c := by
  have := digI_dig ⟨c.toNat, UInt8.toNat_lt c⟩
  simpa using this
theorem digB_calls (x : Nat) (c : UInt8) (hx : c.toNat = x) (n : Int) (hn : digI c = n) (w : World) :
    Calls Tryd.prog 22 #[.string ⟨#[48, 49, 50, 51, 52, 53, 54, 55, 56, 57]⟩, .int .u8 (x : Int)] w fun en w' => en = .returned (.int .i64 n) ∧ w' = w := by
  subst hx
  subst hn
  have h := Any.strings_IndexByte shLays137 (strB [48, 49, 50, 51, 52, 53, 54, 55, 56, 57]) (c.toNat : Int) w
  have e : ((c.toNat : Int)).toNat.toUInt8 = c := by simp
  rw [strB_toList, e] at h
  exact h
def adE (r : Option Int) : Option AdL := r.map fun n => ⟨0, 0, 0, 0, n⟩
def EpsvPost (w : World) (s : List UInt8) (en : Ending) (w' : World) : Prop := en = .returned (adR (adE (epsvL s))) ∧ Kept w w' NoB
set_option maxHeartbeats 8000000 in
set_option maxRecDepth 100000 in
theorem epsv_calls (w : World) (s : List UInt8) (hs : s.length ≤ 1099511627) (hm : MaxI w) (he : ErrT w) :
    Calls Tryd.prog 11 #[.string (strB s)] w (EpsvPost w s) := by
  obtain ⟨res, hres⟩ : ∃ r, epsvL s = r := ⟨_, rfl⟩
  have hrc := epsvL_cut s
  rw [hres] at hrc
  obtain ⟨p1, T, ok, hc⟩ : ∃ a b c, cutX 40 s = (a, b, c) := ⟨_, _, _, rfl⟩
  rw [hc] at hrc
  simp only at hrc
  have hTl : T.length ≤ s.length := by
    rcases cutX_cases 40 s with ⟨a, r, h1, _, h2⟩ | ⟨_, h2⟩
    · rw [hc] at h2
      simp only [Prod.mk.injEq] at h2
      rw [h2.2.1, h1]
      simp
      omega
    · rw [hc] at h2
      simp only [Prod.mk.injEq] at h2
      rw [h2.2.1]
      simp
  obtain ⟨B, hB⟩ : ∃ B, strB T = B := ⟨_, rfl⟩
  have hcut0 := fun W h => cut_calls W s 40 ⟨#[40]⟩ rfl hs h
  rw [hc] at hcut0
  simp only [hB] at hcut0
  have HCUT := Lib.hid hcut0
  have hsz : B.size = T.length := by rw [← hB, strB_size]
  have HBB := Lib.hid hB
  clear hcut0 hB
  have HRES := Lib.hid hres
  have HC := Lib.hid hc
  have HRC := Lib.hid hrc
  have HM := Lib.hid hm
  have HE := Lib.hid he
  clear hres hc hrc hm he
  go_enter Tryd.func11, Tryd.ntmps11
  go_wp2_with fail
  have hk0 : Kept w (w.alloc (.cells #[.int .i64 0, .int .i64 0, .int .i64 0, .int .i64 0, .int .i64 0] 29)) NoB := (Kept.refl _ _).alloc _
  refine (HCUT.out _ (HM.out.kept0 hk0)).mono ?_
  rintro en w1 ⟨rfl, hk1⟩
  have HB := Lib.hid ((Blk.new w 29 #[.int .i64 0, .int .i64 0, .int .i64 0, .int .i64 0, .int .i64 0]).kept0 hk1)
  have HK := Lib.hid (hk0.trans' hk1)
  clear hk1 hk0
  have hgl := HB.out.lt
  have c0 : w1.cell? ⟨w.heap.size, 0, none⟩ = some (.int .i64 0) := (HB.out).cell 0
  have c1 : w1.cell? ⟨w.heap.size, 1, none⟩ = some (.int .i64 0) := (HB.out).cell 1
  have c2 : w1.cell? ⟨w.heap.size, 2, none⟩ = some (.int .i64 0) := (HB.out).cell 2
  have c3 : w1.cell? ⟨w.heap.size, 3, none⟩ = some (.int .i64 0) := (HB.out).cell 3
  have c4 : w1.cell? ⟨w.heap.size, 4, none⟩ = some (.int .i64 0) := (HB.out).cell 4
  have z0 := (HB.out).frozen 0
  have z1 := (HB.out).frozen 1
  have z2 := (HB.out).frozen 2
  have z3 := (HB.out).frozen 3
  have z4 := (HB.out).frozen 4
  cases ok with
  | false =>
    have hn : res = none := HRC.out
    have HN := Lib.hid hn
    clear hn
    go_wp2_with fail
    go_quiet (fail)
    go_wp2_with fail
    refine bodyPost_ret (results_cell_row2 rfl _ _ w.heap.size 29 _ (0, 0) _ (.bool false) rfl rfl (blk5 (HB.out.drewN _) 0 0 0 0 0) Tryd.underlying29 rfl (by kernel_rfl)) rfl ?_
    exact ⟨by rw [HRES.out, HN.out]; rfl, kept5 (HK.out.drewN _) _ _ _ _ _⟩
  | true =>
    have hT : res = epsvT T := HRC.out
    rcases Nat.lt_or_ge T.length 4 with h4 | h4
    · have hn : res = none := by rw [hT, epsvT_short h4]
      have HN := Lib.hid hn
      have t4 : (T.length : Int) < 4 := by omega
      clear hn hT
      go_wp2_with fail
      go_quiet (fail)
      go_wp2_with fail
      refine bodyPost_ret (results_cell_row2 rfl _ _ w.heap.size 29 _ (0, 0) _ (.bool false) rfl rfl (blk5 (HB.out.drewN _) 0 0 0 0 0) Tryd.underlying29 rfl (by kernel_rfl)) rfl ?_
      exact ⟨by rw [HRES.out, HN.out]; rfl, kept5 (HK.out.drewN _) _ _ _ _ _⟩
    · rcases T with _ | ⟨d, _ | ⟨d2, _ | ⟨d3, r⟩⟩⟩
      · simp at h4
      · simp at h4
      · simp at h4
      have hB := HBB.out
      have hB0 : ∀ h, ((strB (d :: d2 :: d3 :: r))[0]'h) = d := fun h => strB_getI _ 0 h
      have hB1 : ∀ h, ((strB (d :: d2 :: d3 :: r))[1]'h) = d2 := fun h => strB_getI _ 1 h
      have hB2 : ∀ h, ((strB (d :: d2 :: d3 :: r))[2]'h) = d3 := fun h => strB_getI _ 2 h
      have hBc1 : (strB (d :: d2 :: d3 :: r)).extract 0 1 = strB [d] := rfl
      have hBc3 : (strB (d :: d2 :: d3 :: r)).extract 3 (r.length + 3) = strB r := by rw [ix_cut]; simp
      have hsz3 : B.size = r.length + 3 := hsz
      clear hsz
      have hrl : r.length + 3 ≤ s.length := hTl
      have h1 : 1 ≤ r.length := by simp only [List.length_cons] at h4; omega
      rw [hB] at hBc1 hBc3
      simp only [hB] at hB0 hB1 hB2
      obtain ⟨n, hn⟩ : ∃ n, r.length + 3 = n := ⟨_, rfl⟩
      rw [hn] at hsz3 hBc3 hrl
      have y0 : 0 < B.size := by omega
      obtain ⟨x0, hx0⟩ : ∃ x : Nat, d.toNat = x := ⟨_, rfl⟩
      have i0 : (B[0]'y0).toNat = x0 := (congrArg UInt8.toNat (hB0 y0)).trans hx0
      have y1 : 1 < B.size := by omega
      obtain ⟨x1, hx1⟩ : ∃ x : Nat, d2.toNat = x := ⟨_, rfl⟩
      have i1 : (B[1]'y1).toNat = x1 := (congrArg UInt8.toNat (hB1 y1)).trans hx1
      have y2 : 2 < B.size := by omega
      obtain ⟨x2, hx2⟩ : ∃ x : Nat, d3.toNat = x := ⟨_, rfl⟩
      have i2 : (B[2]'y2).toNat = x2 := (congrArg UInt8.toNat (hB2 y2)).trans hx2
      obtain ⟨ix, hix⟩ : ∃ n, digI d = n := ⟨_, rfl⟩
      have HIX := Lib.hid (fun W => digB_calls x0 d hx0 ix hix W)
      have hdd := digI_digC d
      rw [hix] at hdd
      have n4 : 4 ≤ n := by omega
      have n0 : 0 < n := by omega
      have n1 : 1 < n := by omega
      have n2 : 2 < n := by omega
      have t4 : ¬ ((n : Int) < 4) := by omega
      have t40 : (0 : Int) < (n : Int) := by omega
      have t41 : (1 : Int) < (n : Int) := by omega
      have t42 : (2 : Int) < (n : Int) := by omega
      have hx0b : x0 < 256 := by rw [← hx0]; exact UInt8.toNat_lt d
      rw [show epsvT (d :: d2 :: d3 :: r) = if 33 ≤ d.toNat ∧ d.toNat ≤ 126 ∧ digC d = false ∧ d2 = d ∧ d3 = d then portE d r else none from rfl, hx0] at hT
      have e2 : d2 = d ↔ x1 = x0 := by rw [← hx0, ← hx1]; exact ⟨fun h => by rw [h], fun h => UInt8.toNat_inj.1 h⟩
      have e3 : d3 = d ↔ x2 = x0 := by rw [← hx0, ← hx2]; exact ⟨fun h => by rw [h], fun h => UInt8.toNat_inj.1 h⟩
      simp only [e2, e3] at hT
      have HN3 := Lib.hid hn
      clear hB0 hB1 hB2 hB hn e2 e3 hix hx1 hx2 hTl h4
      by_cases q1 : x0 ≤ 32
      · have hn : res = none := by rw [hT, if_neg (by omega)]
        have HN := Lib.hid hn
        clear hn hT
        have u1 : decide ((x0 : Int) ≤ 32) = true := by simp; omega
        have u1' : (x0 : Int) ≤ 32 := by omega
        clear hdd hx0
        go_wp2_with fail
        go_quiet (exact Calls.quiet_of_same (HIX.out _))
        go_wp2_with fail
        refine bodyPost_ret (results_cell_row2 rfl _ _ w.heap.size 29 _ (0, 0) _ (.bool false) rfl rfl (blk5 (HB.out.drewN _) 0 0 0 0 0) Tryd.underlying29 rfl (by kernel_rfl)) rfl ?_
        exact ⟨by rw [HRES.out, HN.out]; rfl, kept5 (HK.out.drewN _) _ _ _ _ _⟩
      have u1 : decide ((x0 : Int) ≤ 32) = false := by simp; omega
      have u1' : ¬ (x0 : Int) ≤ 32 := by omega
      have u1'' : 32 < x0 := by omega
      by_cases q2 : 126 < x0
      · have hn : res = none := by rw [hT, if_neg (by omega)]
        have HN := Lib.hid hn
        clear hn hT
        have u2 : (126 : Int) < (x0 : Int) := by omega
        clear hdd hx0
        go_wp2_with fail
        go_quiet (exact Calls.quiet_of_same (HIX.out _))
        go_wp2_with fail
        refine bodyPost_ret (results_cell_row2 rfl _ _ w.heap.size 29 _ (0, 0) _ (.bool false) rfl rfl (blk5 (HB.out.drewN _) 0 0 0 0 0) Tryd.underlying29 rfl (by kernel_rfl)) rfl ?_
        exact ⟨by rw [HRES.out, HN.out]; rfl, kept5 (HK.out.drewN _) _ _ _ _ _⟩
      have u2 : ¬ (126 : Int) < (x0 : Int) := by omega
      have u2' : decide ((126 : Int) < (x0 : Int)) = false := by simp; omega
      by_cases q3 : digC d = true
      · have hn : res = none := by rw [hT, if_neg (by rw [q3]; simp)]
        have HN := Lib.hid hn
        clear hn hT
        have u3 : (0 : Int) ≤ ix := by rw [q3] at hdd; exact of_decide_eq_true hdd
        clear q3
        clear hdd hx0
        go_wp2_with fail
        go_quiet (exact Calls.quiet_of_same (HIX.out _))
        go_wp2_with fail
        refine bodyPost_ret (results_cell_row2 rfl _ _ w.heap.size 29 _ (0, 0) _ (.bool false) rfl rfl (blk5 (HB.out.drewN _) 0 0 0 0 0) Tryd.underlying29 rfl (by kernel_rfl)) rfl ?_
        exact ⟨by rw [HRES.out, HN.out]; rfl, kept5 (HK.out.drewN _) _ _ _ _ _⟩
      have q3' : digC d = false := by simpa using q3
      have u3 : decide ((0 : Int) ≤ ix) = false := by rw [hdd]; exact q3'
      have u3' : ¬ (0 : Int) ≤ ix := of_decide_eq_false u3
      have HD := Lib.hid q3'
      clear q3 q3'
      by_cases q4 : x1 = x0
      · have u4 : ((x1 : Int) != (x0 : Int)) = false := by simp; omega
        have u4' : ((x1 : Int) == (x0 : Int)) = true := by simp; omega
        by_cases q5 : x2 = x0
        · have u5 : ((x2 : Int) != (x0 : Int)) = false := by simp; omega
          have u5' : ((x2 : Int) == (x0 : Int)) = true := by simp; omega
          have hP : res = portE d r := by rw [hT, if_pos ⟨by omega, by omega, HD.out, q4, q5⟩]
          rw [← port_same HD.out] at hP
          have HP := Lib.hid hP
          have HQ4 := Lib.hid q4
          have HQ5 := Lib.hid q5
          clear hP hT hdd hx0 q4 q5
          go_wp2_with fail
          go_quiet (exact Calls.quiet_of_same (HIX.out _))
          rename_i nq
          obtain ⟨w2, hw2⟩ : ∃ w2, w1.drewN nq = w2 := ⟨_, rfl⟩
          have HB2 : Hid _ := Lib.hid (HB.out.drewN nq)
          have HK2 : Hid _ := Lib.hid (HK.out.drewN nq)
          rw [hw2] at HB2 HK2 ⊢
          have hrl2 : r.length ≤ 1099511627 := by have := HN3.out; omega
          have c0 : w2.cell? ⟨w.heap.size, 0, none⟩ = some (.int .i64 0) := (HB2.out).cell 0
          have c1 : w2.cell? ⟨w.heap.size, 1, none⟩ = some (.int .i64 0) := (HB2.out).cell 1
          have c2 : w2.cell? ⟨w.heap.size, 2, none⟩ = some (.int .i64 0) := (HB2.out).cell 2
          have c3 : w2.cell? ⟨w.heap.size, 3, none⟩ = some (.int .i64 0) := (HB2.out).cell 3
          have c4 : w2.cell? ⟨w.heap.size, 4, none⟩ = some (.int .i64 0) := (HB2.out).cell 4
          have z0 := (HB2.out).frozen 0
          have z1 := (HB2.out).frozen 1
          have z2 := (HB2.out).frozen 2
          have z3 := (HB2.out).frozen 3
          have z4 := (HB2.out).frozen 4
          have hgl2 := HB2.out.lt
          obtain ⟨p2, rest, ok2, hc2⟩ : ∃ a b c, cutX d r = (a, b, c) := ⟨_, _, _, rfl⟩
          have hP2 := HP.out
          unfold portP at hP2
          rw [hc2] at hP2
          simp only at hP2
          have hcut2 := fun W h => cut_calls W r d (strB [d]) rfl hrl2 h
          rw [hc2] at hcut2
          have HCUT2 := Lib.hid hcut2
          have hp2l : p2.length ≤ r.length := by
            rcases cutX_cases d r with ⟨a, t, h1, _, h2⟩ | ⟨_, h2⟩
            · rw [hc2] at h2
              simp only [Prod.mk.injEq] at h2
              rw [h2.1, h1]
              simp
            · rw [hc2] at h2
              simp only [Prod.mk.injEq] at h2
              rw [h2.1]
              exact Nat.le_refl _
          rw [← numA_val] at hP2
          have HP2 := Lib.hid hP2
          clear hP2 hcut2 hc2 hw2
          go_wp2_with fail
          refine (HCUT2.out _ (HM.out.kept0 HK2.out)).mono ?_
          rintro en w3 ⟨rfl, hk3⟩
          have HB3 := Lib.hid (HB2.out.kept0 hk3)
          have HK3 := Lib.hid (HK2.out.trans' hk3)
          clear hk3
          go_wp2_with fail
          refine (number_any w3 p2 65535 (by omega) (HE.out.kept0 HK3.out)).mono ?_
          rintro en w4 ⟨rfl, hk4⟩
          have HB4 := Lib.hid (HB3.out.kept0 hk4)
          have HK4 := Lib.hid (HK3.out.trans' hk4)
          clear hk4
          clear c0 z0
          clear c1 z1
          clear c2 z2
          clear c3 z3
          clear c4 z4
          have c0 : w4.cell? ⟨w.heap.size, 0, none⟩ = some (.int .i64 0) := (HB4.out).cell 0
          have c1 : w4.cell? ⟨w.heap.size, 1, none⟩ = some (.int .i64 0) := (HB4.out).cell 1
          have c2 : w4.cell? ⟨w.heap.size, 2, none⟩ = some (.int .i64 0) := (HB4.out).cell 2
          have c3 : w4.cell? ⟨w.heap.size, 3, none⟩ = some (.int .i64 0) := (HB4.out).cell 3
          have c4 : w4.cell? ⟨w.heap.size, 4, none⟩ = some (.int .i64 0) := (HB4.out).cell 4
          have z0 := (HB4.out).frozen 0
          have z1 := (HB4.out).frozen 1
          have z2 := (HB4.out).frozen 2
          have z3 := (HB4.out).frozen 3
          have z4 := (HB4.out).frozen 4
          have hgl4 := HB4.out.lt
          cases hnum : numA p2 65535 with
          | none =>
            rw [show numR none = Value.tuple #[.int .i64 0, .bool false] from rfl]
            have hn : res = none := by rw [HP2.out, hnum]; cases ok2 <;> rfl
            have HN := Lib.hid hn
            clear hn hnum
            cases ok2
            · go_wp2_with fail
              refine bodyPost_ret (results_cell_row2 rfl _ _ w.heap.size 29 _ (0, 0) _ (.bool false) rfl rfl (blk5 (HB4.out) 0 0 0 0 0) Tryd.underlying29 rfl (by kernel_rfl)) rfl ?_
              exact ⟨by rw [HRES.out, HN.out]; rfl, kept5 (HK4.out) _ _ _ _ _⟩
            · go_wp2_with fail
              refine bodyPost_ret (results_cell_row2 rfl _ _ w.heap.size 29 _ (0, 0) _ (.bool false) rfl rfl (blk5 (HB4.out) 0 0 0 0 0) Tryd.underlying29 rfl (by kernel_rfl)) rfl ?_
              exact ⟨by rw [HRES.out, HN.out]; rfl, kept5 (HK4.out) _ _ _ _ _⟩
          | some v =>
            rw [show numR (some v) = Value.tuple #[.int .i64 v, .bool true] from rfl]
            have HNUM := Lib.hid hnum
            clear hnum
            cases ok2 with
            | false =>
              have hn : res = none := by rw [HP2.out]; rfl
              have HN := Lib.hid hn
              clear hn
              go_wp2_with fail
              refine bodyPost_ret (results_cell_row2 rfl _ _ w.heap.size 29 _ (0, 0) _ (.bool false) rfl rfl (blk5 (HB4.out) 0 0 0 0 0) Tryd.underlying29 rfl (by kernel_rfl)) rfl ?_
              exact ⟨by rw [HRES.out, HN.out]; rfl, kept5 (HK4.out) _ _ _ _ _⟩
            | true =>
              by_cases v5 : p2.length ≤ 5
              · have t5 : ¬ (5 : Int) < (p2.length : Int) := by omega
                have t5' : decide ((5 : Int) < (p2.length : Int)) = false := by simp; omega
                by_cases v0 : v = 0
                · subst v0
                  have hn : res = none := by rw [HP2.out, HNUM.out]; simp
                  have HN := Lib.hid hn
                  clear hn
                  go_wp2_with fail
                  refine bodyPost_ret (results_cell_row2 rfl _ _ w.heap.size 29 _ (0, 0) _ (.bool false) rfl rfl (blk5 (HB4.out) 0 0 0 0 0) Tryd.underlying29 rfl (by kernel_rfl)) rfl ?_
                  exact ⟨by rw [HRES.out, HN.out]; rfl, kept5 (HK4.out) _ _ _ _ _⟩
                · have t0 : (v == 0) = false := by simpa using v0
                  cases hpre : Lib.hasPrefix rest [41] with
                  | false =>
                    have HPR := Lib.hid (fun W => pre41_calls W rest false hpre)
                    have hn : res = none := by rw [HP2.out, HNUM.out, hpre]; simp
                    have HN := Lib.hid hn
                    clear hn hpre
                    go_wp2_with fail
                    refine (HPR.out _).mono ?_
                    rintro en _ ⟨rfl, rfl⟩
                    go_wp2_with fail
                    refine bodyPost_ret (results_cell_row2 rfl _ _ w.heap.size 29 _ (0, 0) _ (.bool false) rfl rfl (blk5 (HB4.out) 0 0 0 0 0) Tryd.underlying29 rfl (by kernel_rfl)) rfl ?_
                    exact ⟨by rw [HRES.out, HN.out]; rfl, kept5 (HK4.out) _ _ _ _ _⟩
                  | true =>
                    have HPR := Lib.hid (fun W => pre41_calls W rest true hpre)
                    have hn : res = some v := by rw [HP2.out, HNUM.out, hpre]; simp [v5, v0]
                    have HN := Lib.hid hn
                    clear hn hpre
                    go_wp2_with fail
                    refine (HPR.out _).mono ?_
                    rintro en _ ⟨rfl, rfl⟩
                    go_wp2_with fail
                    refine bodyPost_ret (results_cell_row2 rfl _ _ w.heap.size 29 _ (0, 0) _ (.bool true) rfl rfl (blk5 HB4.out 0 0 0 0 v) Tryd.underlying29 rfl (by kernel_rfl)) rfl ?_
                    exact ⟨by rw [HRES.out, HN.out]; rfl, kept5 HK4.out _ _ _ _ _⟩
              · have t5 : (5 : Int) < (p2.length : Int) := by omega
                have hn : res = none := by rw [HP2.out, HNUM.out]; simp [v5]
                have HN := Lib.hid hn
                clear hn
                go_wp2_with fail
                refine bodyPost_ret (results_cell_row2 rfl _ _ w.heap.size 29 _ (0, 0) _ (.bool false) rfl rfl (blk5 (HB4.out) 0 0 0 0 0) Tryd.underlying29 rfl (by kernel_rfl)) rfl ?_
                exact ⟨by rw [HRES.out, HN.out]; rfl, kept5 (HK4.out) _ _ _ _ _⟩
        · have u5 : ((x2 : Int) != (x0 : Int)) = true := by simp; omega
          have u5' : ((x2 : Int) == (x0 : Int)) = false := by simp; omega
          have hn : res = none := by rw [hT, if_neg (by omega)]
          have HN := Lib.hid hn
          clear hn hT hdd hx0
          go_wp2_with fail
          go_quiet (exact Calls.quiet_of_same (HIX.out _))
          go_wp2_with fail
          refine bodyPost_ret (results_cell_row2 rfl _ _ w.heap.size 29 _ (0, 0) _ (.bool false) rfl rfl (blk5 (HB.out.drewN _) 0 0 0 0 0) Tryd.underlying29 rfl (by kernel_rfl)) rfl ?_
          exact ⟨by rw [HRES.out, HN.out]; rfl, kept5 (HK.out.drewN _) _ _ _ _ _⟩
      · have u4 : ((x1 : Int) != (x0 : Int)) = true := by simp; omega
        have u4' : ((x1 : Int) == (x0 : Int)) = false := by simp; omega
        have hn : res = none := by rw [hT, if_neg (by omega)]
        have HN := Lib.hid hn
        clear hn hT hdd hx0
        go_wp2_with fail
        go_quiet (exact Calls.quiet_of_same (HIX.out _))
        go_wp2_with fail
        refine bodyPost_ret (results_cell_row2 rfl _ _ w.heap.size 29 _ (0, 0) _ (.bool false) rfl rfl (blk5 (HB.out.drewN _) 0 0 0 0 0) Tryd.underlying29 rfl (by kernel_rfl)) rfl ?_
        exact ⟨by rw [HRES.out, HN.out]; rfl, kept5 (HK.out.drewN _) _ _ _ _ _⟩
end Go.Proofs.YtlbipnfnimekfaaDoor
