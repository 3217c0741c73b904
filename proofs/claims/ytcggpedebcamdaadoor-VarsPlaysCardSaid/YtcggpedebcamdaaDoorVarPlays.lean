/- VarsPlays's walk. -/
import Derived.Test.YtcggpedebcamdaaDoorVarR5
import Derived.Test.YtcggpedebcamdaaDoorVarOps
import Derived.BigQuiet
set_option linter.unusedVariables false
set_option linter.unusedSimpArgs false
namespace Go.Proofs.YtcggpedebcamdaaDoor
open Go.RowKit Go.Shelf Go.Lib

theorem row_map {w : World} {e : TypeId} {S : Nat → Prop} {v : Value} {xs : List Value} {r : Nat} {l : List (List UInt8 × Value)} (h : Row w e S v xs) (hr : SMap w r l) : ∀ k, OB v k → ¬ k = r := by
  intro k hk e
  subst e
  rcases h.1.2 with ⟨rfl, _⟩ | ⟨g, cap, cur, rfl, _, hh, _⟩
  · simp [OB, Value.ownBlock] at hk
  · have : g = k := by simpa [OB, Value.ownBlock] using hk
    subst this
    obtain ⟨es, c, h1, _⟩ := hr
    rw [h1] at hh
    cases hh
theorem VarsQ.keptM {w w' : World} {N y r : Nat} {m : VarL} {l : List (List UInt8 × Value)} (h : VarsQ w N y m) (hr : SMap w r l) (k : Kept w w' (fun b => b = r)) : VarsQ w' N y m := by
  obtain ⟨vn, vv, h1, h2, h3⟩ := h
  exact ⟨vn, vv, h1.kept k fun e => hr.ne_blk h1 e.symm, h2.kept_ k (row_map h2 hr), h3.kept_ k (row_map h3 hr)⟩
theorem VarsR.keptY {w w' : World} {p r y : Nat} {m : VarL} {cs : Array Value} (h : VarsR w p r m) (hy : Blk w y 42 cs) (k : Kept w w' (fun b => b = y)) : VarsR w' p r m :=
  h.kept k (fun e => h.1.ne_ hy (by decide) e) (fun e => h.2.ne_blk hy e)
theorem kind4 : ∀ k : Fin 256, Go.bits BinOp.and IntKind.u8 ((k.val : Nat) : Int) 3 = ((k.val % 4 : Nat) : Int) := by decide +kernel
def PlyS (w0 : World) (N y n gk : Nat) (v4 v6 : Value) (wr : World) : Prop :=
  ∃ (i p r : Nat) (m : VarL), i ≤ n ∧ i ≤ 60 ∧ gk = 61 - i ∧ v4 = .pointer (some ⟨p, 0, none⟩) ∧ v6 = .int .i64 (i : Int) ∧ VarsR wr p r m ∧ VarsQ wr N y m ∧ m.length ≤ 16 ∧ (∀ x ∈ m, x.2.length ≤ 1000) ∧ w0.heap.size ≤ r ∧ Kept w0 wr NoB
theorem names_at (w : World) (t : List UInt8) (hl : t.length ≤ 1099511627) (hm : MaxI w) : Calls Tryd.prog 16 #[.string (strB t)] w fun en w' => ∃ v, en = .returned (.tuple #[v, .bool (namesL t).isSome]) ∧ Row w' 9 (fun k => w.heap.size ≤ k) v (strs ((namesL t).getD [])) ∧ Kept w w' NoB := names_calls w t hl hm _ rfl
set_option maxHeartbeats 8000000 in
set_option maxRecDepth 100000 in
theorem plays_law (w : World) (A : Option Addr) (n c : Nat) (es : List OpV) (hA : OpR w (fun b => b < w.heap.size) A n es) (hn : n ≤ 9223372036854775807) (hk : ∀ e ∈ es, e.1 < 256) (hm : MaxI w) :
    Calls Tryd.prog 7 #[.slice A n c] w fun en w' => en = .returned (.bool true) ∧ Kept w w' NoB := by
  have HA := Lib.hid hA
  have HK := Lib.hid hk
  have hel : es.length = n := hA.1
  have HEL := Lib.hid hel
  clear hA hk hel
  go_enter Tryd.func7, Tryd.ntmps7
  go_wp2_with fail
  refine (shown_calls w hm).mono ?_
  rintro en w1 ⟨rfl, hk1⟩
  have HK1 := Lib.hid hk1
  have hz1 := hk1.size
  clear hk1
  go_wp2_with fail
  refine (new_calls w1).mono ?_
  rintro en w2 ⟨rfl, h2, hk2⟩
  have HV2 := Lib.hid h2
  have HK2 := Lib.hid (HK1.out.trans' hk2)
  have hz2 := hk2.size
  clear h2 hk2
  go_wp2_with fail
  have hq3 : VarsQ (w2.alloc (.cells #[.slice none 0 0, .slice none 0 0] 42)) w.heap.size w2.heap.size [] := ⟨_, _, Blk.new _ _ _, Row.nil _ _ _, Row.nil _ _ _⟩
  have hv3 := HV2.out.kept0 ((Kept.refl w2 NoB).alloc (.cells #[.slice none 0 0, .slice none 0 0] 42))
  have hk3 := HK2.out.alloc (.cells #[.slice none 0 0, .slice none 0 0] 42)
  have HQ3 := Lib.hid hq3
  have HV3 := Lib.hid hv3
  have HK3 := Lib.hid hk3
  clear hq3 hv3 hk3
  go_loopg [4, 6] 61 (fun gk v4 v6 wr => PlyS w w.heap.size w2.heap.size n gk v4 v6 wr)
  case atStart => exact ⟨0, _, _, [], Nat.zero_le _, Nat.zero_le _, rfl, rfl, rfl, HV3.out, HQ3.out, by simp, by simp, by omega, HK3.out⟩
  case round =>
    obtain ⟨i, p, r, m, hi, hi60, hgk, rfl, rfl, hv, hq, hml, hsm, hwr, hkr⟩ := hrel
    have HG := Lib.hid hgk
    have HV := Lib.hid hv
    have HQ := Lib.hid hq
    have HSM := Lib.hid hsm
    have HKR := Lib.hid hkr
    have hws := hkr.size
    clear hgk hv hq hsm hkr
    by_cases hgo : i < n ∧ i < 60
    · obtain ⟨hlt, h60⟩ := hgo
      have hil : i < es.length := by rw [HEL.out]; exact hlt
      obtain ⟨ad, hAd, hab, c0, c1, c2⟩ := (HA.out.kept0 HKR.out).at_ hlt hil
      subst hAd
      have hkd := HK.out es[i] (List.getElem_mem hil)
      obtain ⟨x, hx⟩ : ∃ x, es[i] = x := ⟨_, rfl⟩
      rw [hx] at c0 c1 c2 hkd
      obtain ⟨kd, nm0, vl0⟩ := x
      simp only at c0 c1 c2 hkd
      obtain ⟨nm, hnm⟩ : ∃ t, nm0.take 100 = t := ⟨_, rfl⟩
      obtain ⟨vl, hvl⟩ : ∃ t, vl0.take 1100 = t := ⟨_, rfl⟩
      have hnl : nm.length ≤ 100 := by rw [← hnm, List.length_take]; omega
      have hvll : vl.length ≤ 1100 := by rw [← hvl, List.length_take]; omega
      have HNM := Lib.hid hnm
      have HVL := Lib.hid hvl
      have t1 : (i : Int) < (n : Int) := by omega
      have t2 : (i : Int) < 60 := by omega
      clear hx hnm hvl
      go_wp2_with fail
      refine (short_calls wr nm0 100 (by omega) 100 rfl nm HNM.out).mono ?_
      rintro en w4 ⟨rfl, rfl⟩
      go_wp2_with fail
      refine (short_calls w4 vl0 1100 (by omega) 1100 rfl vl HVL.out).mono ?_
      rintro en w5 ⟨rfl, rfl⟩
      go_wp2_with fail
      obtain ⟨nl, hnl2⟩ : ∃ nl, namesL vl = nl := ⟨_, rfl⟩
      have hnll := namesL_lenD hnl2
      have HNL := Lib.hid hnl2
      clear hnl2
      refine (names_calls w5 vl (by omega) (hm.kept0 HKR.out) nl HNL.out).mono ?_
      rintro en w6 ⟨v6, rfl, hr6, hk6⟩
      obtain ⟨A6, k6, rfl, _⟩ := hr6.readsN (n := (nl.getD []).length) (strs_length _)
      have HR6 := Lib.hid hr6
      have HK6 := Lib.hid hk6
      clear hr6 hk6
      go_wp2_with fail
      refine (refNames_calls w6 vl (by omega) nl HNL.out).mono ?_
      rintro en w7 ⟨v7, rfl, hr7, hk7⟩
      obtain ⟨A7, k7, rfl, _⟩ := hr7.readsN (n := (nl.getD []).length) (strs_length _)
      have hR6 := (HR6.out.kept0 hk7).reads'
      have hR7 := hr7.reads'
      rw [strs_length] at hR6 hR7
      have HR6' := Lib.hid hR6
      have HR7 := Lib.hid hR7
      have HK7 := Lib.hid (HK6.out.trans' hk7)
      clear hr7 hk7 hR6 hR7
      go_wp2_with fail
      refine (same_at w7 _ _ A6 A7 _ _ _ _ (nl.getD []) (nl.getD []) HR6'.out HR7.out (by omega) (by omega) true (decide_eq_true rfl)).mono ?_
      rintro en w8 ⟨rfl, hk8⟩
      have HK8 := Lib.hid (HK7.out.trans' hk8)
      have HKW := Lib.hid (HKR.out.trans' (HK7.out.trans' hk8))
      have HV8 := Lib.hid (HV.out.kept0 HK8.out)
      have HQ8 := Lib.hid (HQ.out.kept0 HK8.out)
      have hb8 := hk8
      have d0 := HK8.out.cell c0 (fun x => x)
      have hab8 : (ad.add (i * 3)).block < w8.heap.size := Nat.lt_of_lt_of_le hab HK8.out.size
      have hkd4 := kind4 ⟨kd, hkd⟩
      simp only at hkd4
      obtain ⟨q, hq⟩ : ∃ q, kd % 4 = q := ⟨_, rfl⟩
      have hq4 : q = 0 ∨ q = 1 ∨ q = 2 ∨ q = 3 := by omega
      rw [hq] at hkd4
      clear hk8 hb8 c0 c1 c2 hab hq
      have hws8 := HKW.out.size
      rcases hq4 with rfl | rfl | rfl | rfl
      · obtain ⟨e, he⟩ : ∃ e, setL m nm vl = e := ⟨_, rfl⟩
        have hse := set_small (k := nm) (v := vl) HSM.out
        have hle := set_len (k := nm) (v := vl) hml
        rw [he] at hse hle
        have HE := Lib.hid he
        have HSE := Lib.hid hse
        clear he hse
        go_wp2_with fail
        refine (set_calls w8 p r m nm vl HV8.out e HE.out).mono ?_
        rintro en w9 ⟨rfl, h9, hk9, hs9⟩
        have HV9 := Lib.hid h9
        have HQ9 := Lib.hid (HQ8.out.keptM HV8.out.2 hk9)
        have HK9 := Lib.hid (HKW.out.trans hk9 fun b hb => .inr (by omega))
        clear h9 hk9 d0
        go_wp2_with fail
        refine (refSet_calls w9 w.heap.size w2.heap.size m nm vl HQ9.out (by omega) hml e HE.out).mono ?_
        rintro en wa ⟨rfl, ha, hka⟩
        have hya : Kept w wa NoB := HK9.out.trans hka fun b hb => .inr (by omega)
        obtain ⟨vn, vv, hby, _, _⟩ := HQ9.out
        have hva := HV9.out.keptY hby hka
        have HYA := Lib.hid hya
        have HVA := Lib.hid hva
        have HAQ := Lib.hid ha
        clear hya hva ha hka hby
        obtain ⟨vn', vv', hby', hrn', hrv'⟩ := HAQ.out
        obtain ⟨An, cn, rfl, _⟩ := hrn'.readsN (n := e.2.length) (by rw [strs_length, List.length_map])
        obtain ⟨⟨b0, b1⟩, _⟩ := hby'.cells2
        have hcall := fun (u : World) (k : Nat) => len_calls (wa.drewN k) p r e.2 ((HVA.out).kept0 ((Kept.refl _ _).drewN k))
        have HCALL := Lib.hid hcall
        have HQF := Lib.hid (⟨_, vv', hby', hrn', hrv'⟩ : VarsQ wa w.heap.size w2.heap.size e.2)
        have HVF := Lib.hid (HVA.out)
        have HKF := Lib.hid (HYA.out)
        clear hby' hrn' hrv' hcall
        go_wp2_with fail
        go_quiet (exact Calls.quiet_of_same (HCALL.out wa _))
        go_wp2_with fail
        go_roundg (61 - (i + 1))
        case measure => have := HG.out; omega
        case rel => exact ⟨i + 1, p, r, e.2, hlt, by omega, rfl, rfl, by go_num, HVF.out.kept0 ((Kept.refl _ _).drewN _), VarsQ.kept0 HQF.out ((Kept.refl _ _).drewN _), hle, HSE.out, hwr, HKF.out.trans' ((Kept.refl _ _).drewN _)⟩
      · obtain ⟨q, hq⟩ : ∃ q, findV m nm = q := ⟨_, rfl⟩
        have HQQ := Lib.hid hq
        clear hq
        go_wp2_with fail
        refine (get_at w8 p r m nm _ HV8.out rfl q HQQ.out).mono ?_
        rintro en w9 ⟨rfl, rfl⟩
        go_wp2_with fail
        refine (refGet_calls w9 w.heap.size w2.heap.size m nm HQ8.out (by omega) q HQQ.out).mono ?_
        rintro en wa ⟨rfl, rfl⟩
        have e1 : (strB (q.getD []) == strB (q.getD [])) = true := (Go.MapKept.bytes_beq _ _).2 rfl
        have e2 : (strB (q.getD []) != strB (q.getD [])) = false := by rw [bne, e1]; rfl
        obtain ⟨vn', vv', hby', hrn', hrv'⟩ := HQ8.out
        obtain ⟨An, cn, rfl, _⟩ := hrn'.readsN (n := m.length) (by rw [strs_length, List.length_map])
        obtain ⟨⟨b0, b1⟩, _⟩ := hby'.cells2
        have hcall := fun (u : World) (k : Nat) => len_calls (wa.drewN k) p r m ((HV8.out).kept0 ((Kept.refl _ _).drewN k))
        have HCALL := Lib.hid hcall
        have HQF := Lib.hid (⟨_, vv', hby', hrn', hrv'⟩ : VarsQ wa w.heap.size w2.heap.size m)
        have HVF := Lib.hid (HV8.out)
        have HKF := Lib.hid (HKW.out)
        clear hby' hrn' hrv' hcall
        go_wp2_with fail
        go_quiet (exact Calls.quiet_of_same (HCALL.out wa _))
        go_wp2_with fail
        go_roundg (61 - (i + 1))
        case measure => have := HG.out; omega
        case rel => exact ⟨i + 1, p, r, m, hlt, by omega, rfl, rfl, by go_num, HVF.out.kept0 ((Kept.refl _ _).drewN _), VarsQ.kept0 HQF.out ((Kept.refl _ _).drewN _), hml, HSM.out, hwr, HKF.out.trans' ((Kept.refl _ _).drewN _)⟩
      · obtain ⟨vs, hvs⟩ : ∃ t, vl.take 100 = t := ⟨_, rfl⟩
        have hvsl : vs.length ≤ 100 := by rw [← hvs, List.length_take]; omega
        have HVS := Lib.hid hvs
        obtain ⟨q, hq⟩ : ∃ q, expandL (findV m) vs = q := ⟨_, rfl⟩
        have HQQ := Lib.hid hq
        clear hq hvs
        go_wp2_with fail
        refine (short_calls w8 vl 100 (by omega) 100 rfl vs HVS.out).mono ?_
        rintro en w9 ⟨rfl, rfl⟩
        go_wp2_with fail
        refine (expand_at w9 p r m vs _ HV8.out rfl HSM.out (by omega) (hm.kept0 HKW.out) q HQQ.out).mono ?_
        rintro en wb ⟨rfl, hkb⟩
        have HKB := Lib.hid (HKW.out.trans' hkb)
        have HVB := Lib.hid (HV8.out.kept0 hkb)
        have HQB := Lib.hid (HQ8.out.kept0 hkb)
        clear hkb d0
        go_wp2_with fail
        refine (refExpand_calls wb w.heap.size w2.heap.size m vs HQB.out hml HSM.out (by omega) q HQQ.out).mono ?_
        rintro en wd ⟨rfl, hkd'⟩
        have HKD := Lib.hid (HKB.out.trans' hkd')
        have HVD := Lib.hid (HVB.out.kept0 hkd')
        have HQD := Lib.hid (HQB.out.kept0 hkd')
        have e1 : (strB (q.getD []) == strB (q.getD [])) = true := (Go.MapKept.bytes_beq _ _).2 rfl
        have e2 : (strB (q.getD []) != strB (q.getD [])) = false := by rw [bne, e1]; rfl
        clear hkd'
        obtain ⟨vn', vv', hby', hrn', hrv'⟩ := HQD.out
        obtain ⟨An, cn, rfl, _⟩ := hrn'.readsN (n := m.length) (by rw [strs_length, List.length_map])
        obtain ⟨⟨b0, b1⟩, _⟩ := hby'.cells2
        have hcall := fun (u : World) (k : Nat) => len_calls (wd.drewN k) p r m ((HVD.out).kept0 ((Kept.refl _ _).drewN k))
        have HCALL := Lib.hid hcall
        have HQF := Lib.hid (⟨_, vv', hby', hrn', hrv'⟩ : VarsQ wd w.heap.size w2.heap.size m)
        have HVF := Lib.hid (HVD.out)
        have HKF := Lib.hid (HKD.out)
        clear hby' hrn' hrv' hcall
        go_wp2_with fail
        go_quiet (exact Calls.quiet_of_same (HCALL.out wd _))
        go_wp2_with fail
        go_roundg (61 - (i + 1))
        case measure => have := HG.out; omega
        case rel => exact ⟨i + 1, p, r, m, hlt, by omega, rfl, rfl, by go_num, HVF.out.kept0 ((Kept.refl _ _).drewN _), VarsQ.kept0 HQF.out ((Kept.refl _ _).drewN _), hml, HSM.out, hwr, HKF.out.trans' ((Kept.refl _ _).drewN _)⟩
      · go_wp2_with fail
        refine (clone_calls w8 p r m HV8.out).mono ?_
        rintro en w9 ⟨rfl, h9, hk9⟩
        have HV9 := Lib.hid h9
        have HO9 := Lib.hid (HV8.out.kept0 hk9)
        have HQ9 := Lib.hid (HQ8.out.kept0 hk9)
        have HK9 := Lib.hid (HKW.out.trans' hk9)
        have hr8 := HV8.out.2.lt
        have hz9 := hk9.size
        clear h9 hk9 d0
        go_wp2_with fail
        refine (set_at w9 p r m [97] [111, 116, 104, 101, 114] _ _ HO9.out rfl rfl _ rfl).mono ?_
        rintro en wa ⟨rfl, ha, hka, _⟩
        have HOA := Lib.hid ha
        have HVA := Lib.hid (HV9.out.kept hka (fun e => HO9.out.2.ne_blk HV9.out.1 e.symm) (by omega))
        have HQA := Lib.hid (HQ9.out.keptM HO9.out.2 hka)
        have HKA := Lib.hid (HK9.out.trans hka fun b hb => .inr (by omega))
        clear ha hka
        go_wp2_with fail
        refine (set_at wa p r _ [122, 122] [109, 111, 114, 101] _ _ HOA.out rfl rfl _ rfl).mono ?_
        rintro en wb ⟨rfl, hb', hkb, _⟩
        have HVB := Lib.hid (HVA.out.kept hkb (fun e => HOA.out.2.ne_blk HVA.out.1 e.symm) (by omega))
        have HQB := Lib.hid (HQA.out.keptM HOA.out.2 hkb)
        have HKB := Lib.hid (HKA.out.trans hkb fun b hb => .inr (by omega))
        clear hb' hkb
        obtain ⟨vn', vv', hby', hrn', hrv'⟩ := HQB.out
        obtain ⟨An, cn, rfl, _⟩ := hrn'.readsN (n := m.length) (by rw [strs_length, List.length_map])
        obtain ⟨⟨b0, b1⟩, _⟩ := hby'.cells2
        have hcall := fun (u : World) (k : Nat) => len_calls (wb.drewN k) (w8.heap.size + 1) w8.heap.size m ((HVB.out).kept0 ((Kept.refl _ _).drewN k))
        have HCALL := Lib.hid hcall
        have HQF := Lib.hid (⟨_, vv', hby', hrn', hrv'⟩ : VarsQ wb w.heap.size w2.heap.size m)
        have HVF := Lib.hid (HVB.out)
        have HKF := Lib.hid (HKB.out)
        clear hby' hrn' hrv' hcall
        go_wp2_with fail
        go_quiet (exact Calls.quiet_of_same (HCALL.out wb _))
        go_wp2_with fail
        go_roundg (61 - (i + 1))
        case measure => have := HG.out; omega
        case rel => exact ⟨i + 1, (w8.heap.size + 1), w8.heap.size, m, hlt, by omega, rfl, rfl, by go_num, HVF.out.kept0 ((Kept.refl _ _).drewN _), VarsQ.kept0 HQF.out ((Kept.refl _ _).drewN _), hml, HSM.out, (by omega), HKF.out.trans' ((Kept.refl _ _).drewN _)⟩
    · have hor : (¬ i < n) ∨ (i < n ∧ ¬ i < 60) := by omega
      clear hgo
      rcases hor with h1 | ⟨h1, h2⟩
      case' inl =>
        have t1 : ¬ (i : Int) < (n : Int) := by omega
        have t3 : decide ((i : Int) < (n : Int)) = false := decide_eq_false t1
      case' inr =>
        have t1 : (i : Int) < (n : Int) := by omega
        have t2 : ¬ (i : Int) < 60 := by omega
      all_goals
        go_wp2_with fail
        go_ret
        exact ⟨rfl, HKR.out⟩
theorem varsPlays_walk (W : World) (a0 : Option Addr) (len0 cap0 : Nat) (w0 : IsEnts W a0 len0 cap0) (hsh : W.ShapedOpen Tryd.prog) :
    Calls Tryd.prog 7 #[.slice a0 len0 cap0] W fun en w' => en = .returned (.bool true) ∧ Below W.heap.size W w' := by
  obtain ⟨hl, es, hr, hk⟩ := w0
  exact (plays_law W a0 len0 cap0 es hr hl hk (MaxI.of_shape hsh)).mono fun _ _ ⟨he, hk⟩ => ⟨he, hk.below⟩
end Go.Proofs.YtcggpedebcamdaaDoor
