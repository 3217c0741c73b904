/- The reference's sum of bytes. (Printed by gen_dref3.py.) -/
import Derived.Test.YthnebhnlkjkcmaaDoorDref2
import Derived.Test.YthnebhnlkjkcmaaDoorDsum5
set_option linter.unusedVariables false
set_option linter.unusedSimpArgs false
namespace Go.Proofs.YthnebhnlkjkcmaaDoor
open Go.RowKit

def rsT : Array Value := (turnN.map fun n => Value.int .i64 ((n : Nat) : Int)).toArray
theorem rsT_at (i : Nat) (h : i < 64) : rsT[i / 16 * 4 + i % 4]? = some (.int .i64 ((turnAt i : Nat) : Int)) := by
  unfold rsT turnAt
  have hl : i / 16 * 4 + i % 4 < turnN.length := by show _ < 16; omega
  rw [List.getElem?_toArray, List.getElem?_map, List.getElem?_eq_getElem hl, List.getD_eq_getElem?_getD, List.getElem?_eq_getElem hl]
  rfl
def RsO (w0 : World) (g2 gs gn : Nat) (z : Array Value) (P : List UInt8) (Q len : Nat) (A2 : Option Addr) (gk : Nat) (v6 v7 : Value) (wr : World) : Prop :=
  ∃ j gh, j ≤ Q ∧ gk = Q - j ∧ v6 = .slice (some ⟨gh, 0, none⟩) 4 4 ∧ v7 = .int .i64 ((64 * j : Nat) : Int) ∧ Blk wr gh 63 (cS (blkP initS P j)) ∧ Blk wr gs 3 rsT ∧ Blk wr gn 63 sinA ∧ Blk wr g2 48 z ∧ Reads wr (fun b => w0.heap.size ≤ b) A2 len (b8s P) ∧ Kept w0 wr NoB
def RsI (w1 : World) (m : Nat → BitVec 32) (s : S4) (gk : Nat) (v8 v9 v10 v11 v12 : Value) (wr : World) : Prop :=
  ∃ i, i ≤ 64 ∧ gk = 64 - i ∧ v8 = .int .u32 (U (runP m s i).a) ∧ v9 = .int .u32 (U (runP m s i).b) ∧ v10 = .int .u32 (U (runP m s i).c) ∧ v11 = .int .u32 (U (runP m s i).d) ∧ v12 = .int .i64 (i : Int) ∧ Kept w1 wr NoB
def RsE (w0 : World) (g2 gh go : Nat) (z : Array Value) (s : S4) (gk : Nat) (v17 : Value) (wr : World) : Prop :=
  ∃ i, i ≤ 16 ∧ gk = 16 - i ∧ v17 = .int .i64 (i : Int) ∧ Blk wr go 48 (outI s i) ∧ Blk wr gh 63 (cS s) ∧ Blk wr g2 48 z ∧ Kept w0 wr NoB
set_option maxHeartbeats 16000000 in
set_option maxRecDepth 100000 in
theorem refSum_calls (w : World) (S : Nat → Prop) (A : Option Addr) (n c : Nat) (L : List UInt8) (hR : Reads w S A n (b8s L)) (hn : n ≤ 1099511627) :
    Calls Tryd.prog 33 #[.slice A n c] w fun en w' => en = .returned (v16 (md5P L)) ∧ Kept w w' NoB := by
  have hln : L.length = n := by have := hR.1; rwa [b8s_length] at this
  have HR := Lib.hid hR
  have hres : md5P L = outL (blkP initS (padL L) (n / 64 + endN n / 64)) := by rw [md5P, ← refSum_eq, hln]
  have hPl := padL_len L
  rw [hln] at hPl
  have hE : endN n = 64 ∨ endN n = 128 := by unfold endN; split <;> simp
  obtain ⟨Q, hQ⟩ : ∃ Q, n / 64 + endN n / 64 = Q := ⟨_, rfl⟩
  have hQb : Q ≤ 17179871 := by omega
  rw [hQ] at hres hPl
  obtain ⟨P, hP⟩ : ∃ P, padL L = P := ⟨_, rfl⟩
  rw [hP] at hres hPl
  obtain ⟨len, hlen⟩ : ∃ a, 64 * Q = a := ⟨_, rfl⟩
  rw [hlen] at hPl
  have HLEN := Lib.hid hlen
  have hlenb : len ≤ 1099511744 := by omega
  have HP := Lib.hid hP
  have HPL := Lib.hid hPl
  have HRES := Lib.hid hres
  clear hR hln hE hQ hres hPl hP hlen
  go_enter Tryd.func33, Tryd.ntmps33
  go_wp2_with fail
  have hz : ∃ z, (#[.int .u8 0, .int .u8 0, .int .u8 0, .int .u8 0, .int .u8 0, .int .u8 0, .int .u8 0, .int .u8 0, .int .u8 0, .int .u8 0, .int .u8 0, .int .u8 0, .int .u8 0, .int .u8 0, .int .u8 0, .int .u8 0] : Array Value) = z := ⟨_, rfl⟩
  have HK0 := Lib.hid (((Kept.refl w NoB).alloc (.cells #[.int .u8 0, .int .u8 0, .int .u8 0, .int .u8 0, .int .u8 0, .int .u8 0, .int .u8 0, .int .u8 0, .int .u8 0, .int .u8 0, .int .u8 0, .int .u8 0, .int .u8 0, .int .u8 0, .int .u8 0, .int .u8 0] 48)).alloc (.cells #[.int .i64 7, .int .i64 12, .int .i64 17, .int .i64 22, .int .i64 5, .int .i64 9, .int .i64 14, .int .i64 20, .int .i64 4, .int .i64 11, .int .i64 16, .int .i64 23, .int .i64 6, .int .i64 10, .int .i64 15, .int .i64 21] 3))
  have HA0 := Lib.hid ((Blk.new w 48 #[.int .u8 0, .int .u8 0, .int .u8 0, .int .u8 0, .int .u8 0, .int .u8 0, .int .u8 0, .int .u8 0, .int .u8 0, .int .u8 0, .int .u8 0, .int .u8 0, .int .u8 0, .int .u8 0, .int .u8 0, .int .u8 0]).alloc (.cells #[.int .i64 7, .int .i64 12, .int .i64 17, .int .i64 22, .int .i64 5, .int .i64 9, .int .i64 14, .int .i64 20, .int .i64 4, .int .i64 11, .int .i64 16, .int .i64 23, .int .i64 6, .int .i64 10, .int .i64 15, .int .i64 21] 3))
  have hb0 := Blk.new (w.alloc (.cells #[.int .u8 0, .int .u8 0, .int .u8 0, .int .u8 0, .int .u8 0, .int .u8 0, .int .u8 0, .int .u8 0, .int .u8 0, .int .u8 0, .int .u8 0, .int .u8 0, .int .u8 0, .int .u8 0, .int .u8 0, .int .u8 0] 48)) 3 #[.int .i64 7, .int .i64 12, .int .i64 17, .int .i64 22, .int .i64 5, .int .i64 9, .int .i64 14, .int .i64 20, .int .i64 4, .int .i64 11, .int .i64 16, .int .i64 23, .int .i64 6, .int .i64 10, .int .i64 15, .int .i64 21]
  have hsz0 : (w.alloc (.cells #[.int .u8 0, .int .u8 0, .int .u8 0, .int .u8 0, .int .u8 0, .int .u8 0, .int .u8 0, .int .u8 0, .int .u8 0, .int .u8 0, .int .u8 0, .int .u8 0, .int .u8 0, .int .u8 0, .int .u8 0, .int .u8 0] 48)).heap.size = w.heap.size + 1 := by simp
  rw [hsz0] at hb0
  have HB0 := Lib.hid hb0
  clear hb0 hsz0
  generalize (w.alloc (.cells #[.int .u8 0, .int .u8 0, .int .u8 0, .int .u8 0, .int .u8 0, .int .u8 0, .int .u8 0, .int .u8 0, .int .u8 0, .int .u8 0, .int .u8 0, .int .u8 0, .int .u8 0, .int .u8 0, .int .u8 0, .int .u8 0] 48)).alloc (.cells #[.int .i64 7, .int .i64 12, .int .i64 17, .int .i64 22, .int .i64 5, .int .i64 9, .int .i64 14, .int .i64 20, .int .i64 4, .int .i64 11, .int .i64 16, .int .i64 23, .int .i64 6, .int .i64 10, .int .i64 15, .int .i64 21] 3) = W0 at *
  obtain ⟨gs, hgs⟩ : ∃ g, w.heap.size + 1 = g := ⟨_, rfl⟩
  have hgsl : w.heap.size ≤ gs := by omega
  rw [hgs] at HB0 ⊢
  clear hgs
  obtain ⟨g2, hg2⟩ : ∃ g, w.heap.size = g := ⟨_, rfl⟩
  have HG2 := Lib.hid hg2
  rw [hg2] at HA0 hgsl ⊢
  clear hg2
  have hT : (#[.int .i64 7, .int .i64 12, .int .i64 17, .int .i64 22, .int .i64 5, .int .i64 9, .int .i64 14, .int .i64 20, .int .i64 4, .int .i64 11, .int .i64 16, .int .i64 23, .int .i64 6, .int .i64 10, .int .i64 15, .int .i64 21] : Array Value) = rsT := rfl
  rw [hT] at HB0
  clear hT
  obtain ⟨z, hz⟩ := hz
  rw [hz] at HA0
  have HZ := Lib.hid hz
  clear hz
  refine (sines_calls W0).mono ?_
  rintro en _ ⟨rfl, rfl⟩
  have HK1 := Lib.hid (HK0.out.alloc (.cells sinA 63))
  have HA1 := Lib.hid (HA0.out.alloc (.cells sinA 63))
  have HB1 := Lib.hid (HB0.out.alloc (.cells sinA 63))
  have HC1 := Lib.hid (Blk.new W0 63 sinA)
  generalize W0.alloc (.cells sinA 63) = W1 at *
  obtain ⟨gn, hgn⟩ : ∃ g, W0.heap.size = g := ⟨_, rfl⟩
  rw [hgn] at HC1 ⊢
  clear hgn HK0 HA0 HB0
  go_wp2_with fail
  refine (padded_calls W1 S A n c L (HR.out.kept0 HK1.out) (by omega)).mono ?_
  rintro en w2 ⟨v, rfl, hk, hrow⟩
  rw [HP.out] at hrow
  have HK2 := Lib.hid (HK1.out.trans' hk)
  have HA2 := Lib.hid (HA1.out.kept0 hk)
  have HB2 := Lib.hid (HB1.out.kept0 hk)
  have HC2 := Lib.hid (HC1.out.kept0 hk)
  have hrow' := hrow.mono (T := fun b => w.heap.size ≤ b) (fun k _ h => Nat.le_trans HK1.out.size h)
  obtain ⟨A2, cA, rfl, hc2, hm2⟩ := hrow'.shape
  have hrd := hrow'.reads'
  rw [b8s_length, HPL.out] at hrd hc2 ⊢
  unfold maxLen at hm2
  have HRD := Lib.hid hrd
  clear hrow hrow' hrd hk HK1 HA1 HB1 HC1 HR
  go_wp2_with fail
  have HK3 := Lib.hid (HK2.out.alloc (.cells #[.int .u32 1732584193, .int .u32 4023233417, .int .u32 2562383102, .int .u32 271733878] 63))
  have HA3 := Lib.hid (HA2.out.alloc (.cells #[.int .u32 1732584193, .int .u32 4023233417, .int .u32 2562383102, .int .u32 271733878] 63))
  have HB3 := Lib.hid (HB2.out.alloc (.cells #[.int .u32 1732584193, .int .u32 4023233417, .int .u32 2562383102, .int .u32 271733878] 63))
  have HC3 := Lib.hid (HC2.out.alloc (.cells #[.int .u32 1732584193, .int .u32 4023233417, .int .u32 2562383102, .int .u32 271733878] 63))
  have HRD3 := Lib.hid (HRD.out.alloc (.cells #[.int .u32 1732584193, .int .u32 4023233417, .int .u32 2562383102, .int .u32 271733878] 63))
  have HD3 := Lib.hid (Blk.new w2 63 #[.int .u32 1732584193, .int .u32 4023233417, .int .u32 2562383102, .int .u32 271733878])
  generalize w2.alloc (.cells #[.int .u32 1732584193, .int .u32 4023233417, .int .u32 2562383102, .int .u32 271733878] 63) = W3 at *
  obtain ⟨gh0, hgh⟩ : ∃ g, w2.heap.size = g := ⟨_, rfl⟩
  rw [hgh] at HD3 ⊢
  have hini : (#[.int .u32 1732584193, .int .u32 4023233417, .int .u32 2562383102, .int .u32 271733878] : Array Value) = cS (blkP initS P 0) := rfl
  rw [hini] at HD3
  clear hgh hini HK2 HA2 HB2 HC2 HRD
  go_loopg [6, 7] Q (fun gk v6 v7 wr => RsO w g2 gs gn z P Q len A2 gk v6 v7 wr)
  case atStart => exact ⟨0, gh0, Nat.zero_le _, rfl, rfl, rfl, HD3.out, HB3.out, HC3.out, HA3.out, HRD3.out, HK3.out⟩
  case round =>
    obtain ⟨j, gh, hj, hgk, rfl, rfl, hbh, hbs, hbn, hb2, hrd, hk⟩ := hrel
    have HG := Lib.hid hgk
    have RH := Lib.hid hbh
    have RS := Lib.hid hbs
    have RN := Lib.hid hbn
    have R2 := Lib.hid hb2
    have RR := Lib.hid hrd
    have RK := Lib.hid hk
    clear hgk hbh hbs hbn hb2 hrd hk HD3 HB3 HC3 HA3 HRD3 HK3
    rcases Nat.lt_or_ge j Q with hlt | hge
    · obtain ⟨at0, hat⟩ : ∃ a, 64 * j = a := ⟨_, rfl⟩
      obtain ⟨WQ, hWQ⟩ : ∃ W, W = wr := ⟨_, rfl⟩
      subst hWQ
      have h64 : at0 + 64 ≤ len := by have := HLEN.out; omega
      have HAT := Lib.hid hat
      rw [hat]
      clear hat
      have HPL2 := HPL
      obtain ⟨s, hs⟩ : ∃ s, blkP initS P j = s := ⟨_, rfl⟩
      rw [hs] at RH
      have HS := Lib.hid hs
      clear hs
      obtain ⟨s1, s2, s3, s4⟩ := s
      have t0 : (at0 : Int) < (len : Int) := by omega
      have c0 : WQ.cell? ⟨gh, 0, none⟩ = some (.int .u32 (U s1)) := RH.out.cell 0
      have c1 : WQ.cell? ⟨gh, 1, none⟩ = some (.int .u32 (U s2)) := RH.out.cell 1
      have c2 : WQ.cell? ⟨gh, 2, none⟩ = some (.int .u32 (U s3)) := RH.out.cell 2
      have c3 : WQ.cell? ⟨gh, 3, none⟩ = some (.int .u32 (U s4)) := RH.out.cell 3
      go_wp2_with fail
      go_loopg [8, 9, 10, 11, 12] 64 (fun gk v8 v9 v10 v11 v12 wr' => RsI WQ (mW ((P.drop at0).take 64)) ⟨s1, s2, s3, s4⟩ gk v8 v9 v10 v11 v12 wr')
      case atStart => exact ⟨0, Nat.zero_le _, rfl, rfl, rfl, rfl, rfl, rfl, Kept.refl _ _⟩
      case round =>
        obtain ⟨i, hi, hgk, rfl, rfl, rfl, rfl, rfl, hk⟩ := hrel
        have HG2' := Lib.hid hgk
        have KI := Lib.hid hk
        clear hgk hk
        rcases Nat.lt_or_ge i 64 with hlt2 | hge2
        · have hnx : runP (mW ((P.drop at0).take 64)) ⟨s1, s2, s3, s4⟩ (i + 1) = stepP (mW ((P.drop at0).take 64)) i (runP (mW ((P.drop at0).take 64)) ⟨s1, s2, s3, s4⟩ i) := rfl
          obtain ⟨x, hx⟩ : ∃ x, runP (mW ((P.drop at0).take 64)) ⟨s1, s2, s3, s4⟩ i = x := ⟨_, rfl⟩
          rw [hx] at hnx ⊢
          obtain ⟨xa, xb, xc, xd⟩ := x
          unfold stepP at hnx
          simp only at hnx ⊢
          have hG16 := gP_lt i hlt2
          have htb := turnAt_bd ⟨i, hlt2⟩
          simp only at htb
          have hmw := mW_cut P at0 (gP i) (by rw [HPL2.out]; exact h64) hG16
          rw [hmw] at hnx
          obtain ⟨G, hG⟩ : ∃ G, gP i = G := ⟨_, rfl⟩
          obtain ⟨AF, hAF⟩ : ∃ a, at0 + 4 * G = a := ⟨_, rfl⟩
          have hAF4 : AF + 4 ≤ len := by omega
          have hround := fun W => round_calls W i hlt2 xb xc xd
          have hword := fun n => word_calls (wr.drewN n) _ A2 len cA P ((RR.out.kept0 KI.out).drewN n) AF hAF4 (by omega)
          rw [hG] at hnx hround
          rw [hAF] at hnx
          obtain ⟨f, hf⟩ : ∃ f, fP (i / 16) xb xc xd = f := ⟨_, rfl⟩
          rw [hf] at hnx hround
          obtain ⟨sn, hsn⟩ : ∃ s, BitVec.ofNat 32 (sineN i) = s := ⟨_, rfl⟩
          rw [hsn] at hnx
          obtain ⟨mg, hmg⟩ : ∃ m, pwW P AF 4 = m := ⟨_, rfl⟩
          rw [hmg] at hnx hword
          obtain ⟨k, hkk⟩ : ∃ k, turnAt i = k := ⟨_, rfl⟩
          rw [hkk] at hnx htb
          have hturn := fun W => turned_calls W (((xa + f) + sn) + mg) k htb.1 htb.2
          have hs1 := add_U xa f
          have hs2 := add_U (xa + f) sn
          have hs3 := add_U ((xa + f) + sn) mg
          obtain ⟨r, hr⟩ : ∃ r, (((xa + f) + sn) + mg).rotateLeft k = r := ⟨_, rfl⟩
          rw [hr] at hnx hturn
          have hs4 := add_U xb r
          have ck : WQ.cell? ⟨gn, i, none⟩ = some (.int .u32 (U sn)) := by rw [RN.out.cell, ← hsn]; exact sinA_at i hlt2
          obtain ⟨T, hT⟩ : ∃ t, i / 16 * 4 + i % 4 = t := ⟨_, rfl⟩
          have ct : WQ.cell? ⟨gs, T, none⟩ = some (.int .i64 (k : Int)) := by rw [RS.out.cell, ← hT, ← hkk]; exact rsT_at i hlt2
          obtain ⟨q, hq⟩ : ∃ q, i / 16 = q := ⟨_, rfl⟩
          obtain ⟨r4, hr4⟩ : ∃ q, i % 4 = q := ⟨_, rfl⟩
          have ck' := KI.out.cell ck (fun x => x)
          have ct' := KI.out.cell ct (fun x => x)
          clear ck ct
          obtain ⟨ua, hua⟩ : ∃ v, U xa = v := ⟨_, rfl⟩
          obtain ⟨ub, hub⟩ : ∃ v, U xb = v := ⟨_, rfl⟩
          obtain ⟨uc, huc⟩ : ∃ v, U xc = v := ⟨_, rfl⟩
          obtain ⟨ud, hud⟩ : ∃ v, U xd = v := ⟨_, rfl⟩
          obtain ⟨uf, huf⟩ : ∃ v, U f = v := ⟨_, rfl⟩
          obtain ⟨us, hus⟩ : ∃ v, U sn = v := ⟨_, rfl⟩
          obtain ⟨um, hum⟩ : ∃ v, U mg = v := ⟨_, rfl⟩
          obtain ⟨ur, hur⟩ : ∃ v, U r = v := ⟨_, rfl⟩
          obtain ⟨u1, hu1⟩ : ∃ v, U (xa + f) = v := ⟨_, rfl⟩
          obtain ⟨u2, hu2⟩ : ∃ v, U ((xa + f) + sn) = v := ⟨_, rfl⟩
          obtain ⟨u3, hu3⟩ : ∃ v, U (((xa + f) + sn) + mg) = v := ⟨_, rfl⟩
          obtain ⟨u4, hu4⟩ : ∃ v, U (xb + r) = v := ⟨_, rfl⟩
          rw [hua, huf, hu1] at hs1
          rw [hu1, hus, hu2] at hs2
          rw [hu2, hum, hu3] at hs3
          rw [hub, hur, hu4] at hs4
          rw [hus] at ck'
          simp only [hub, huc, hud, huf] at hround
          simp only [hum] at hword
          simp only [hu3, hur] at hturn
          rw [hua, hub, huc, hud]
          have hs1' : (ua + uf) % 4294967296 = u1 := by rw [← hs1, IntKind.wrap_u32']
          have hs2' : (u1 + us) % 4294967296 = u2 := by rw [← hs2, IntKind.wrap_u32']
          have hs3' : (u2 + um) % 4294967296 = u3 := by rw [← hs3, IntKind.wrap_u32']
          have hs4' : (ub + ur) % 4294967296 = u4 := by rw [← hs4, IntKind.wrap_u32']
          have HNX : Hid (U (xb + r) = u4 ∧ runP (mW ((P.drop at0).take 64)) ⟨s1, s2, s3, s4⟩ (i + 1) = ⟨xd, xb + r, xb, xc⟩ ∧ U xb = ub ∧ U xc = uc ∧ U xd = ud) := Lib.hid ⟨hu4, hnx, hub, huc, hud⟩
          have HRO := Lib.hid hround
          have HWO := Lib.hid hword
          have HTU := Lib.hid hturn
          clear hround hword hturn hnx hu1 hu2 hu3 hu4 hua hub huc hud huf hus hum hur hsn hmg hf hr hx hmw
          obtain ⟨F, hF⟩ : ∃ a, 4 * G = a := ⟨_, rfl⟩
          obtain ⟨q4, hq4⟩ : ∃ a, q * 4 = a := ⟨_, rfl⟩
          have ti : (i : Int) < 64 := by omega
          have tT0 : (0 : Int) ≤ (T : Int) := by omega
          have tT : (T : Int) < 16 := by omega
          have e1 : (i : Int).tdiv 16 = (q : Int) := by rw [Int.tdiv_eq_ediv_of_nonneg (by omega)]; omega
          have e1' : (i : Int) / 16 = (q : Int) := by omega
          have e2 : (i : Int).tmod 4 = (r4 : Int) := by rw [Int.tmod_eq_emod_of_nonneg (by omega)]; omega
          have e2' : (i : Int) % 4 = (r4 : Int) := by omega
          have e3 : IntKind.i64.wrap (q : Int) = (q : Int) := IntWalk.i64_in _ (by omega)
          have e4 : IntKind.i64.wrap ((q : Int) * 4) = (q4 : Int) := by rw [IntWalk.i64_in _ (by omega)]; omega
          have e4' : (q : Int) * 4 = (q4 : Int) := by omega
          have e5 : IntKind.i64.wrap ((q4 : Int) + (r4 : Int)) = (T : Int) := by rw [IntWalk.i64_in _ (by omega)]; omega
          have e5' : (q4 : Int) + (r4 : Int) = (T : Int) := by omega
          have e6 : IntKind.i64.wrap (4 * (G : Int)) = (F : Int) := by rw [IntWalk.i64_in _ (by omega)]; omega
          have e6' : 4 * (G : Int) = (F : Int) := by omega
          have e7 : IntKind.i64.wrap ((at0 : Int) + (F : Int)) = (AF : Int) := by rw [IntWalk.i64_in _ (by omega)]; omega
          have e7' : (at0 : Int) + (F : Int) = (AF : Int) := by omega
          have HE1 := Lib.hid (And.intro e1 (And.intro e1' (And.intro e2 (And.intro e2' (And.intro e3 (And.intro e4 (And.intro e4' (And.intro e5 (And.intro e5' (And.intro e6 (And.intro e6' (And.intro e7 e7'))))))))))))
          clear e1 e1' e2 e2' e3 e4 e4' e5 e5' e6 e6' e7 e7' hF hq4 hq hr4 hT hAF hG hkk
          go_wp2_with fail
          refine (HRO.out _).mono ?_
          rintro en _ ⟨rfl, rfl⟩
          go_upto_region 16 with (fail)
          obtain ⟨e1, e1', e2, e2', e3, e4, e4', e5, e5', e6, e6', e7, e7'⟩ := HE1.out
          go_quiet (first | exact Calls.quiet_of (HWO.out _) | exact Calls.quiet_of (HTU.out _))
          clear e1 e1' e2 e2' e3 e4 e4' e5 e5' e6 e6' e7 e7' ck' ct' hs1 hs2 hs3 hs4 hs1' hs2' hs3' hs4'
          go_wp2_with fail
          go_roundg (64 - (i + 1))
          case measure => have := HG2'.out; omega
          case rel =>
            obtain ⟨k4, k5, k6, k7, k8⟩ := HNX.out
            exact ⟨i + 1, hlt2, rfl, by rw [k5, ← k8], by rw [k5, ← k4], by rw [k5, ← k6], by rw [k5, ← k7], by go_num, KI.out.drewN _⟩
        · obtain rfl : i = 64 := by omega
          obtain ⟨x, hx⟩ : ∃ x, runP (mW ((P.drop at0).take 64)) ⟨s1, s2, s3, s4⟩ 64 = x := ⟨_, rfl⟩
          have hnx : blkP initS P (j + 1) = sumS x ⟨s1, s2, s3, s4⟩ := by
            show addP (mW ((P.drop (64 * j)).take 64)) (blkP initS P j) = _
            rw [HS.out, HAT.out, addP, hx]
          rw [hx]
          obtain ⟨xa, xb, xc, xd⟩ := x
          unfold sumS at hnx
          simp only at hnx ⊢
          have hs0 := add_U s1 xa
          rw [BitVec.add_comm s1 xa] at hs0
          have hs1 := add_U s2 xb
          rw [BitVec.add_comm s2 xb] at hs1
          have hs2 := add_U s3 xc
          rw [BitVec.add_comm s3 xc] at hs2
          have hs3 := add_U s4 xd
          rw [BitVec.add_comm s4 xd] at hs3
          obtain ⟨u0, hu0⟩ : ∃ v, U s1 = v := ⟨_, rfl⟩
          obtain ⟨v0, hv0⟩ : ∃ v, U xa = v := ⟨_, rfl⟩
          obtain ⟨n0, hn0⟩ : ∃ v, U (xa + s1) = v := ⟨_, rfl⟩
          rw [hu0, hv0, hn0] at hs0
          have hs0' : (u0 + v0) % 4294967296 = n0 := by rw [← hs0, IntKind.wrap_u32']
          have d0 := KI.out.cell c0 (fun x => x)
          rw [hu0] at d0
          obtain ⟨u1, hu1⟩ : ∃ v, U s2 = v := ⟨_, rfl⟩
          obtain ⟨v1, hv1⟩ : ∃ v, U xb = v := ⟨_, rfl⟩
          obtain ⟨n1, hn1⟩ : ∃ v, U (xb + s2) = v := ⟨_, rfl⟩
          rw [hu1, hv1, hn1] at hs1
          have hs1' : (u1 + v1) % 4294967296 = n1 := by rw [← hs1, IntKind.wrap_u32']
          have d1 := KI.out.cell c1 (fun x => x)
          rw [hu1] at d1
          obtain ⟨u2, hu2⟩ : ∃ v, U s3 = v := ⟨_, rfl⟩
          obtain ⟨v2, hv2⟩ : ∃ v, U xc = v := ⟨_, rfl⟩
          obtain ⟨n2, hn2⟩ : ∃ v, U (xc + s3) = v := ⟨_, rfl⟩
          rw [hu2, hv2, hn2] at hs2
          have hs2' : (u2 + v2) % 4294967296 = n2 := by rw [← hs2, IntKind.wrap_u32']
          have d2 := KI.out.cell c2 (fun x => x)
          rw [hu2] at d2
          obtain ⟨u3, hu3⟩ : ∃ v, U s4 = v := ⟨_, rfl⟩
          obtain ⟨v3, hv3⟩ : ∃ v, U xd = v := ⟨_, rfl⟩
          obtain ⟨n3, hn3⟩ : ∃ v, U (xd + s4) = v := ⟨_, rfl⟩
          rw [hu3, hv3, hn3] at hs3
          have hs3' : (u3 + v3) % 4294967296 = n3 := by rw [← hs3, IntKind.wrap_u32']
          have d3 := KI.out.cell c3 (fun x => x)
          rw [hu3] at d3
          rw [hv0, hv1, hv2, hv3]
          have HNX := Lib.hid hnx
          have HN := Lib.hid (And.intro hn0 (And.intro hn1 (And.intro hn2 hn3)))
          have tn : ¬ (64 : Int) < 64 := by omega
          clear hnx hx c0 c1 c2 c3 hu0 hu1 hu2 hu3 hv0 hv1 hv2 hv3 hn0 hn1 hn2 hn3
          go_wp2_with fail
          go_region
          go_wp2_with fail
          go_roundg (Q - (j + 1))
          case measure => have := HG.out; omega
          case rel =>
            obtain ⟨q0, q1, q2, q3⟩ := HN.out
            have hb := Blk.new (wr.drew) 63 #[.int .u32 n0, .int .u32 n1, .int .u32 n2, .int .u32 n3]
            have e : (#[.int .u32 n0, .int .u32 n1, .int .u32 n2, .int .u32 n3] : Array Value) = cS (blkP initS P (j + 1)) := by rw [HNX.out, ← q0, ← q1, ← q2, ← q3]; rfl
            rw [e] at hb ⊢
            exact ⟨j + 1, _, hlt, rfl, rfl, by rw [← HAT.out]; go_num, hb, (RS.out.kept0 KI.out).drew.alloc _, (RN.out.kept0 KI.out).drew.alloc _, (R2.out.kept0 KI.out).drew.alloc _, (RR.out.kept0 KI.out).drew.alloc _, (RK.out.trans' KI.out).drew.alloc _⟩
    · obtain rfl : j = Q := by omega
      obtain ⟨s, hs⟩ : ∃ s, blkP initS P j = s := ⟨_, rfl⟩
      have hres := HRES.out
      rw [hs] at RH hres
      have HRS := Lib.hid hres
      rw [HLEN.out]
      have tn : ¬ (len : Int) < (len : Int) := by omega
      clear hs hres RR RS RN HPL HRES
      go_wp2_with fail
      have HK8 := Lib.hid (RK.out.alloc (.cells #[.int .u8 0, .int .u8 0, .int .u8 0, .int .u8 0, .int .u8 0, .int .u8 0, .int .u8 0, .int .u8 0, .int .u8 0, .int .u8 0, .int .u8 0, .int .u8 0, .int .u8 0, .int .u8 0, .int .u8 0, .int .u8 0] 48))
      have H38 := Lib.hid (RH.out.alloc (.cells #[.int .u8 0, .int .u8 0, .int .u8 0, .int .u8 0, .int .u8 0, .int .u8 0, .int .u8 0, .int .u8 0, .int .u8 0, .int .u8 0, .int .u8 0, .int .u8 0, .int .u8 0, .int .u8 0, .int .u8 0, .int .u8 0] 48))
      have H28 := Lib.hid (R2.out.alloc (.cells #[.int .u8 0, .int .u8 0, .int .u8 0, .int .u8 0, .int .u8 0, .int .u8 0, .int .u8 0, .int .u8 0, .int .u8 0, .int .u8 0, .int .u8 0, .int .u8 0, .int .u8 0, .int .u8 0, .int .u8 0, .int .u8 0] 48))
      have H88 := Lib.hid (Blk.new wr 48 #[.int .u8 0, .int .u8 0, .int .u8 0, .int .u8 0, .int .u8 0, .int .u8 0, .int .u8 0, .int .u8 0, .int .u8 0, .int .u8 0, .int .u8 0, .int .u8 0, .int .u8 0, .int .u8 0, .int .u8 0, .int .u8 0])
      have h38 : gh < wr.heap.size := RH.out.lt
      have h28 : g2 < wr.heap.size := R2.out.lt
      have h8w : w.heap.size ≤ wr.heap.size := RK.out.size
      generalize wr.alloc (.cells #[.int .u8 0, .int .u8 0, .int .u8 0, .int .u8 0, .int .u8 0, .int .u8 0, .int .u8 0, .int .u8 0, .int .u8 0, .int .u8 0, .int .u8 0, .int .u8 0, .int .u8 0, .int .u8 0, .int .u8 0, .int .u8 0] 48) = W8 at *
      obtain ⟨g8, hg8⟩ : ∃ g, wr.heap.size = g := ⟨_, rfl⟩
      rw [hg8] at H88 h38 h28 h8w ⊢
      clear hg8 RH R2 RK
      go_loopg [17] 16 (fun gk v17 wr => RsE w g2 gh g8 z s gk v17 wr)
      case atStart => exact ⟨0, Nat.zero_le _, rfl, rfl, H88.out, H38.out, H28.out, HK8.out⟩
      case round =>
        obtain ⟨i, hi, hgk, rfl, h8, h3, h2, hk⟩ := hrel
        have HG4 := Lib.hid hgk
        have J8 := Lib.hid h8
        have J3 := Lib.hid h3
        have J2 := Lib.hid h2
        have JK := Lib.hid hk
        clear hgk h8 h3 h2 hk
        rcases Nat.lt_or_ge i 16 with hlt | hge'
        · obtain ⟨q, hq⟩ : ∃ q, i / 4 = q := ⟨_, rfl⟩
          obtain ⟨r, hr⟩ : ∃ r, i % 4 = r := ⟨_, rfl⟩
          have hqi : (i : Int) / 4 = (q : Int) := by omega
          have hri : (i : Int) % 4 = (r : Int) := by omega
          have hq4 : q < 4 := by omega
          have hr4 : r < 4 := by omega
          have c3 : wr.cell? ⟨gh, q, none⟩ = some (.int .u32 (U (wordN s q))) := by rw [J3.out.cell]; exact cS_at s q hq4
          have c8 : wr.cell? ⟨g8, i, none⟩ = some (.int .u8 (if i < i then ((outB s i).toNat : Int) else 0)) := by
            rw [J8.out.cell, outI, List.getElem?_toArray, List.getElem?_map, List.getElem?_range hlt]
            rfl
          have f8 := J8.out.frozen i
          have hgl := J8.out.lt
          have hset := J8.out.set_ i (.int .u8 ((outB s i).toNat : Int))
          rw [outI_set s i hlt] at hset
          have hob : (U (wordN s q) / 2 ^ (8 * r)) % 256 = ((outB s i).toNat : Int) := by
            unfold outB U
            rw [hq, hr, UInt8.toNat_ofNat']
            simp
          have hub := U_bd (wordN s q)
          obtain ⟨u, hu⟩ : ∃ u, U (wordN s q) = u := ⟨_, rfl⟩
          obtain ⟨y, hy⟩ : ∃ y : Nat, (outB s i).toNat = y := ⟨_, rfl⟩
          rw [hu] at c3 hob hub
          rw [hy] at hob hset
          obtain ⟨hub0, hub1⟩ := hub
          have HSS := Lib.hid hset
          have ti : (i : Int) < 16 := by omega
          clear hset hq hr hu hy
          go_wp2_with fail
          go_roundg (16 - (i + 1))
          case measure => have := HG4.out; omega
          case rel => exact ⟨i + 1, hlt, rfl, by go_num, HSS.out, J3.out.far (by show gh ≠ g8; omega) _, J2.out.far (by show g2 ≠ g8; omega) _, JK.out.setCell (.inr h8w) _⟩
        · obtain rfl : i = 16 := by omega
          rw [outI_all, ← HRS.out] at J8
          obtain ⟨RES, hRES⟩ : ∃ R, md5P L = R := ⟨_, rfl⟩
          have hl16 : (md5P L).length = 16 := by simp [md5P, outL]
          rw [hRES] at J8 hl16
          have HRS3 := Lib.hid hRES
          obtain ⟨r0, r1, r2, r3, r4, r5, r6, r7, r8, r9, r10, r11, r12, r13, r14, r15, hre⟩ := list16 RES hl16
          have HRE := Lib.hid hre
          rw [hre] at J8
          rw [← HZ.out] at J2
          clear hl16 hre hRES
          have tn5 : ¬ ((16 : Int) < 16) := by omega
          have c0 : wr.cell? ⟨g8, 0, none⟩ = some (.int .u8 (r0.toNat : Int)) := J8.out.cell 0
          have d0 : wr.cell? ⟨g2, 0, none⟩ = some (.int .u8 0) := J2.out.cell 0
          have f0 := J2.out.frozen 0
          have c1 : wr.cell? ⟨g8, 1, none⟩ = some (.int .u8 (r1.toNat : Int)) := J8.out.cell 1
          have d1 : wr.cell? ⟨g2, 1, none⟩ = some (.int .u8 0) := J2.out.cell 1
          have f1 := J2.out.frozen 1
          have c2 : wr.cell? ⟨g8, 2, none⟩ = some (.int .u8 (r2.toNat : Int)) := J8.out.cell 2
          have d2 : wr.cell? ⟨g2, 2, none⟩ = some (.int .u8 0) := J2.out.cell 2
          have f2 := J2.out.frozen 2
          have c3 : wr.cell? ⟨g8, 3, none⟩ = some (.int .u8 (r3.toNat : Int)) := J8.out.cell 3
          have d3 : wr.cell? ⟨g2, 3, none⟩ = some (.int .u8 0) := J2.out.cell 3
          have f3 := J2.out.frozen 3
          have c4 : wr.cell? ⟨g8, 4, none⟩ = some (.int .u8 (r4.toNat : Int)) := J8.out.cell 4
          have d4 : wr.cell? ⟨g2, 4, none⟩ = some (.int .u8 0) := J2.out.cell 4
          have f4 := J2.out.frozen 4
          have c5 : wr.cell? ⟨g8, 5, none⟩ = some (.int .u8 (r5.toNat : Int)) := J8.out.cell 5
          have d5 : wr.cell? ⟨g2, 5, none⟩ = some (.int .u8 0) := J2.out.cell 5
          have f5 := J2.out.frozen 5
          have c6 : wr.cell? ⟨g8, 6, none⟩ = some (.int .u8 (r6.toNat : Int)) := J8.out.cell 6
          have d6 : wr.cell? ⟨g2, 6, none⟩ = some (.int .u8 0) := J2.out.cell 6
          have f6 := J2.out.frozen 6
          have c7 : wr.cell? ⟨g8, 7, none⟩ = some (.int .u8 (r7.toNat : Int)) := J8.out.cell 7
          have d7 : wr.cell? ⟨g2, 7, none⟩ = some (.int .u8 0) := J2.out.cell 7
          have f7 := J2.out.frozen 7
          have c8 : wr.cell? ⟨g8, 8, none⟩ = some (.int .u8 (r8.toNat : Int)) := J8.out.cell 8
          have d8 : wr.cell? ⟨g2, 8, none⟩ = some (.int .u8 0) := J2.out.cell 8
          have f8 := J2.out.frozen 8
          have c9 : wr.cell? ⟨g8, 9, none⟩ = some (.int .u8 (r9.toNat : Int)) := J8.out.cell 9
          have d9 : wr.cell? ⟨g2, 9, none⟩ = some (.int .u8 0) := J2.out.cell 9
          have f9 := J2.out.frozen 9
          have c10 : wr.cell? ⟨g8, 10, none⟩ = some (.int .u8 (r10.toNat : Int)) := J8.out.cell 10
          have d10 : wr.cell? ⟨g2, 10, none⟩ = some (.int .u8 0) := J2.out.cell 10
          have f10 := J2.out.frozen 10
          have c11 : wr.cell? ⟨g8, 11, none⟩ = some (.int .u8 (r11.toNat : Int)) := J8.out.cell 11
          have d11 : wr.cell? ⟨g2, 11, none⟩ = some (.int .u8 0) := J2.out.cell 11
          have f11 := J2.out.frozen 11
          have c12 : wr.cell? ⟨g8, 12, none⟩ = some (.int .u8 (r12.toNat : Int)) := J8.out.cell 12
          have d12 : wr.cell? ⟨g2, 12, none⟩ = some (.int .u8 0) := J2.out.cell 12
          have f12 := J2.out.frozen 12
          have c13 : wr.cell? ⟨g8, 13, none⟩ = some (.int .u8 (r13.toNat : Int)) := J8.out.cell 13
          have d13 : wr.cell? ⟨g2, 13, none⟩ = some (.int .u8 0) := J2.out.cell 13
          have f13 := J2.out.frozen 13
          have c14 : wr.cell? ⟨g8, 14, none⟩ = some (.int .u8 (r14.toNat : Int)) := J8.out.cell 14
          have d14 : wr.cell? ⟨g2, 14, none⟩ = some (.int .u8 0) := J2.out.cell 14
          have f14 := J2.out.frozen 14
          have c15 : wr.cell? ⟨g8, 15, none⟩ = some (.int .u8 (r15.toNat : Int)) := J8.out.cell 15
          have d15 : wr.cell? ⟨g2, 15, none⟩ = some (.int .u8 0) := J2.out.cell 15
          have f15 := J2.out.frozen 15
          have hgl := J2.out.lt
          go_wp2_with fail
          refine bodyPost_ret (results_cell_row rfl _ _ g2 48 _ (0, 0) _ rfl (blk16 J2.out r0 r1 r2 r3 r4 r5 r6 r7 r8 r9 r10 r11 r12 r13 r14 r15) Tryd.underlying48 rfl (by kernel_rfl)) rfl ?_
          have e2 : w.heap.size ≤ g2 := by rw [HG2.out]; exact Nat.le_refl _
          exact ⟨by rw [HRS3.out, HRE.out]; rfl, kept16 JK.out e2 _ _ _ _ _ _ _ _ _ _ _ _ _ _ _ _⟩
end Go.Proofs.YthnebhnlkjkcmaaDoor
