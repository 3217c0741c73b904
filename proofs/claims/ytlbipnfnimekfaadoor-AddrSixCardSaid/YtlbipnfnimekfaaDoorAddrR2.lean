/- Addresses: the reference's Pasv. -/
import Derived.Test.YtlbipnfnimekfaaDoorAddrR
import Derived.BigRegion
import Derived.IntWalk
set_option linter.unusedVariables false
set_option linter.unusedSimpArgs false
namespace Go.Proofs.YtlbipnfnimekfaaDoor
open Go.RowKit Go.Shelf

/-- What stands behind a comma. -/
def comma : List UInt8 → Option (List UInt8)
  | [] => none
  | c :: r => if c = 44 then some r else none
theorem refK_comma (k : Nat) (s : List UInt8) : refK (k + 1) s = (comma (s.dropWhile digC)).bind fun r => (numW (s.takeWhile digC)).bind fun n => (refK k r).map fun l => n :: l := by
  rw [refK]
  cases hd : s.dropWhile digC with
  | nil => rfl
  | cons c r =>
    by_cases hc : c = 44
    · subst hc; rfl
    · rw [comma, if_neg hc]
      split
      · rename_i r' h
        exact absurd (List.cons.inj h).1 hc
      · rfl
/-- What is still to be read behind i numbers. -/
def restP (i : Nat) (l : List Int) (R : List UInt8) : Option (List Int) :=
  if i = 0 then refK 5 R else if i = 6 then some l else (comma R).bind fun r => (refK (5 - i) r).map fun m => l ++ m
theorem refK_num {k : Nat} {r : List UInt8} (h : numW (r.takeWhile digC) = none) : refK k r = none := by
  cases k with
  | zero => rw [refK, h]; rfl
  | succ k =>
    rw [refK_comma, h]
    cases comma (r.dropWhile digC) <;> rfl
theorem refK_more {k : Nat} {r : List UInt8} {n : Int} (h : numW (r.takeWhile digC) = some n) : refK (k + 1) r = (comma (r.dropWhile digC)).bind fun r' => (refK k r').map fun m => n :: m := by
  rw [refK_comma, h]
  rfl
theorem rest0_none {R : List UInt8} (h : numW (R.takeWhile digC) = none) : restP 0 [] R = none := by
  rw [restP, if_pos rfl, refK_num h]
theorem rest0_some {R : List UInt8} {n : Int} (h : numW (R.takeWhile digC) = some n) : restP 0 [] R = restP 1 [n] (R.dropWhile digC) := by
  rw [restP, if_pos rfl, refK_more h, restP, if_neg (by decide), if_neg (by decide)]
  rfl
theorem rest_none {i : Nat} {l : List Int} {r : List UInt8} (h1 : 1 ≤ i) (h5 : i ≤ 5) (h : numW (r.takeWhile digC) = none) : restP i l (44 :: r) = none := by
  rw [restP, if_neg (by omega), if_neg (by omega), comma, if_pos rfl, Option.bind_some, refK_num h]
  rfl
theorem rest_some {i : Nat} {l : List Int} {r : List UInt8} {n : Int} (h1 : 1 ≤ i) (h5 : i ≤ 5) (h : numW (r.takeWhile digC) = some n) : restP i l (44 :: r) = restP (i + 1) (l ++ [n]) (r.dropWhile digC) := by
  rw [restP, if_neg (by omega), if_neg (by omega), comma, if_pos rfl, Option.bind_some]
  by_cases h6 : i = 5
  · subst h6
    rw [restP, if_neg (by decide), if_pos rfl, show 5 - 5 = 0 from rfl, refK, h]
    rfl
  · rw [restP, if_neg (by omega), if_neg (by omega), show 5 - i = (5 - (i + 1)) + 1 by omega, refK_more h]
    cases comma (r.dropWhile digC) with
    | none => rfl
    | some r' =>
      rw [Option.bind_some, Option.bind_some, Option.map_map]
      congr 1
      funext m
      simp
theorem rest_bad {i : Nat} {l : List Int} {R : List UInt8} (h1 : 1 ≤ i) (h5 : i ≤ 5) (h : comma R = none) : restP i l R = none := by
  rw [restP, if_neg (by omega), if_neg (by omega), h]
  rfl
def RdS (w0 : World) (a gk : Nat) (v4 : Value) (wr : World) : Prop := ∃ j, j ≤ a ∧ gk = a - j ∧ v4 = .int .i64 (j : Int) ∧ w0 = wr
theorem digAt_lead (L : List UInt8) : ∀ j, j < (L.takeWhile fun c => !digC c).length → digAt L j = false := by
  induction L with
  | nil => intro j hj; simp at hj
  | cons c L ih =>
    intro j hj
    cases hc : digC c with
    | true => rw [List.takeWhile_cons_of_neg (by simp [hc])] at hj; simp at hj
    | false =>
      rw [List.takeWhile_cons_of_pos (by simp [hc])] at hj
      cases j with
      | zero => simp [digAt, hc]
      | succ j =>
        have := ih j (by simp only [List.length_cons] at hj; omega)
        simpa [digAt] using this
theorem digAt_end (L : List UInt8) (h : (L.takeWhile fun c => !digC c).length < L.length) : digAt L (L.takeWhile fun c => !digC c).length = true := by
  induction L with
  | nil => simp at h
  | cons c L ih =>
    cases hc : digC c with
    | true => rw [List.takeWhile_cons_of_neg (by simp [hc])]; simp [digAt, hc]
    | false =>
      rw [List.takeWhile_cons_of_pos (by simp [hc])] at h ⊢
      have := ih (by simp only [List.length_cons] at h; omega)
      simpa [digAt] using this
def RpS (w0 : World) (g : Nat) (L : List UInt8) (res : Option (List Int)) (gk : Nat) (v4 v5 v6 : Value) (wr : World) : Prop :=
  ∃ (i k : Nat) (l : List Int), i ≤ 6 ∧ gk = 6 - i ∧ v6 = .int .i64 (i : Int) ∧ v4 = .int .i64 (k : Int) ∧ k ≤ L.length ∧ l.length = i ∧ Row wr 3 (fun b => w0.heap.size ≤ b) v5 (intsV l) ∧ restP i l (L.drop k) = res ∧ Kept w0 wr NoB
set_option maxHeartbeats 8000000 in
set_option maxRecDepth 100000 in
theorem refPasv_calls (w : World) (L : List UInt8) (hl : L.length ≤ 1099511627) :
    Calls Tryd.prog 15 #[.string (strB L)] w (PasvPost w L) := by
  obtain ⟨B, hB⟩ : ∃ B, strB L = B := ⟨_, rfl⟩
  have hsz : B.size = L.length := by rw [← hB, strB_size]
  have hlead := digAt_lead L
  have hend := digAt_end L
  have hdrop := drop_takeWhile (fun c => !digC c) L
  have hal : (L.takeWhile fun c => !digC c).length ≤ L.length := (List.takeWhile_prefix (l := L) fun c => !digC c).length_le
  obtain ⟨a, ha⟩ : ∃ a, (L.takeWhile fun c => !digC c).length = a := ⟨_, rfl⟩
  rw [ha] at hlead hend hdrop hal
  obtain ⟨res, hres⟩ : ∃ r, refK 5 (L.dropWhile fun c => !digC c) = r := ⟨_, rfl⟩
  obtain ⟨n, hn⟩ : ∃ n, L.length = n := ⟨_, rfl⟩
  rw [hB]
  have HL := Lib.hid hl
  have HB := Lib.hid hB
  have HLEAD := Lib.hid hlead
  have HEND := Lib.hid hend
  have HDROP := Lib.hid hdrop
  have HRES := Lib.hid hres
  rw [hn] at hsz hal hl
  have HN := Lib.hid hn
  clear hB hlead hend hdrop hres hn ha
  go_enter Tryd.func15, Tryd.ntmps15
  go_wp2_with fail
  have HB0 := Lib.hid (Blk.new w 29 #[.int .i64 0, .int .i64 0, .int .i64 0, .int .i64 0, .int .i64 0])
  have HK0 := Lib.hid ((Kept.refl w NoB).alloc (.cells #[.int .i64 0, .int .i64 0, .int .i64 0, .int .i64 0, .int .i64 0] 29))
  generalize w.alloc (.cells #[.int .i64 0, .int .i64 0, .int .i64 0, .int .i64 0, .int .i64 0] 29) = w1 at *
  go_loopg [4] a (fun gk v4 wr => RdS w1 a gk v4 wr)
  case atStart => exact ⟨0, Nat.zero_le _, rfl, rfl, rfl⟩
  case round =>
    obtain ⟨j, hj, hgk, rfl, rfl⟩ := hrel
    have HG := Lib.hid hgk
    clear hgk
    rcases Nat.lt_or_ge j a with hlt | hge
    · have HD := Lib.hid (HLEAD.out j hlt)
      have tj : (j : Int) < (n : Int) := by omega
      go_wp2_with fail
      refine (dig_calls w1 L B HB.out HL.out j (by omega) false HD.out).mono ?_
      rintro en _ ⟨rfl, rfl⟩
      go_wp2_with fail
      go_roundg (a - (j + 1))
      case measure => have := HG.out; omega
      case rel => exact ⟨j + 1, hlt, rfl, by go_num, rfl⟩
    · obtain rfl : j = a := by omega
      have hpn : res = none → pasvL L = none := fun h => by unfold pasvL; rw [HRES.out, h]
      have hps : ∀ a b c d e f, res = some [a, b, c, d, e, f] → pasvL L = if e * 256 + f = 0 then none else some ⟨a, b, c, d, e * 256 + f⟩ := fun a b c d e f h => by unfold pasvL; rw [HRES.out, h]
      have HPN := Lib.hid hpn
      have HPS := Lib.hid hps
      clear hpn hps
      cases Nat.lt_or_eq_of_le hal
      case' inl hlt =>
        have HD := Lib.hid (HEND.out (by rw [HN.out]; exact hlt))
        have tj : (j : Int) < (n : Int) := by omega
        go_wp2_with fail
        refine (dig_calls w1 L B HB.out HL.out j (by omega) true HD.out).mono ?_
        rintro en _ ⟨rfl, rfl⟩
        go_wp2_with fail
      case' inr heq =>
        have tj : decide ((j : Int) < (n : Int)) = false := by simp; omega
        have tj' : ¬ (j : Int) < (n : Int) := by omega
        have HEQ := Lib.hid heq
        clear heq
        go_wp2_with fail
      all_goals
        go_loopg [4, 5, 6, 7, 8, 9, 10] 6 (fun gk v4 v5 v6 _ _ _ _ wr => RpS w1 w.heap.size L res gk v4 v5 v6 wr)
        case atStart => exact ⟨0, j, [], by omega, rfl, rfl, rfl, by rw [HN.out]; exact hal, rfl, Row.made0 _ _ _ (Nat.le_refl _), by rw [restP, if_pos rfl, HDROP.out]; exact HRES.out, (Kept.refl _ _).alloc _⟩
        case round =>
          obtain ⟨i, k, l, hi, hgk, rfl, rfl, hk, hll, hrow, hrest, hkp⟩ := hrel
          have HG := Lib.hid hgk
          have HROW := Lib.hid hrow
          have HREST := Lib.hid hrest
          have HKP := Lib.hid hkp
          have HBR := Lib.hid (HB0.out.kept0 hkp)
          have HKR := Lib.hid (HK0.out.trans' hkp)
          have HLL := Lib.hid hll
          rw [HN.out] at hk
          clear hgk hrow hrest hkp hll
          have c0 : wr.cell? ⟨w.heap.size, 0, none⟩ = some (.int .i64 0) := HBR.out.cell 0
          have c1 : wr.cell? ⟨w.heap.size, 1, none⟩ = some (.int .i64 0) := HBR.out.cell 1
          have c2 : wr.cell? ⟨w.heap.size, 2, none⟩ = some (.int .i64 0) := HBR.out.cell 2
          have c3 : wr.cell? ⟨w.heap.size, 3, none⟩ = some (.int .i64 0) := HBR.out.cell 3
          have c4 : wr.cell? ⟨w.heap.size, 4, none⟩ = some (.int .i64 0) := HBR.out.cell 4
          have z0 := HBR.out.frozen 0
          have z1 := HBR.out.frozen 1
          have z2 := HBR.out.frozen 2
          have z3 := HBR.out.frozen 3
          have z4 := HBR.out.frozen 4
          have hgl := HBR.out.lt
          rcases Nat.lt_or_ge i 6 with hlt6 | hge6
          · obtain ⟨A5, c5, hv5, hc5, _⟩ := HROW.out.readsN (n := i) (by rw [intsV_length]; exact HLL.out)
            subst hv5
            have ti6 : (i : Int) < 6 := by omega
            cases Nat.eq_zero_or_pos i
            case' inl h0 =>
              have t0 : ¬ (0 : Int) < (i : Int) := by omega
              have hl0 : l = [] := List.length_eq_zero_iff.1 (by rw [HLL.out]; exact h0)
              have hr0 : restP 0 [] (L.drop k) = res := by have := HREST.out; rwa [h0, hl0] at this
              have hw0 : numW ((L.drop k).takeWhile digC) = none → res = none := fun h => by rw [← hr0, rest0_none h]
              have hw1 : ∀ v, numW ((L.drop k).takeWhile digC) = some v → restP (i + 1) (l ++ [v]) ((L.drop k).dropWhile digC) = res := fun v h => by rw [h0, hl0, ← hr0, rest0_some h]; rfl
              obtain ⟨K, hK⟩ : ∃ K, k = K := ⟨_, rfl⟩
              rw [hK] at hw0 hw1 hk ⊢
              have HW0 := Lib.hid hw0
              have HW1 := Lib.hid hw1
              clear hw0 hw1 hr0 hl0 h0 hK
              go_wp2_with fail
            case' inr hpos =>
              have t0 : (0 : Int) < (i : Int) := by omega
              cases Nat.lt_or_eq_of_le hk
              case inr heq =>
                have tk : (n : Int) ≤ (k : Int) := by omega
                have hn0 : res = none := by
                  rw [← HREST.out, rest_bad hpos (by omega)]
                  rw [List.drop_eq_nil_of_le (by rw [HN.out]; omega)]
                  rfl
                have HN0 := Lib.hid hn0
                clear hn0 heq
                go_wp2_with fail
                refine bodyPost_ret (results_cell_row2 rfl _ _ w.heap.size 29 _ (0, 0) _ (.bool false) rfl rfl (blk5 HBR.out 0 0 0 0 0) Tryd.underlying29 rfl (by kernel_rfl)) rfl ?_
                exact ⟨by rw [HPN.out HN0.out]; rfl, kept5 HKR.out _ _ _ _ _⟩
              case' inl hkn =>
                have tk : ¬ (n : Int) ≤ (k : Int) := by omega
                have tk' : decide ((n : Int) ≤ (k : Int)) = false := by simp; omega
                have tk2 : (k : Int) < (n : Int) := by omega
                have hkL : k < L.length := by rw [HN.out]; exact hkn
                have y0 : k < B.size := by rw [hsz]; exact hkn
                obtain ⟨x, hx⟩ : ∃ x : Nat, L[k].toNat = x := ⟨_, rfl⟩
                have i0 : (B[k]'y0).toNat = x := by have := HB.out; subst this; rw [strB_getI]; exact hx
                have hdr : L.drop k = L[k] :: L.drop (k + 1) := List.drop_eq_getElem_cons hkL
                cases Decidable.em (x = 44)
                case inr hx44 =>
                  have t44 : ((x : Int) != 44) = true := by simp; omega
                  have t44' : ((x : Int) == 44) = false := by simp; omega
                  have hn0 : res = none := by
                    rw [← HREST.out, rest_bad hpos (by omega)]
                    rw [hdr, comma, if_neg]
                    intro h
                    rw [h] at hx
                    exact hx44 hx.symm
                  have HN0 := Lib.hid hn0
                  clear hn0 hx44 hx hdr hkL
                  go_wp2_with fail
                  refine bodyPost_ret (results_cell_row2 rfl _ _ w.heap.size 29 _ (0, 0) _ (.bool false) rfl rfl (blk5 HBR.out 0 0 0 0 0) Tryd.underlying29 rfl (by kernel_rfl)) rfl ?_
                  exact ⟨by rw [HPN.out HN0.out]; rfl, kept5 HKR.out _ _ _ _ _⟩
                case' inl hx44 =>
                  have t44 : ((x : Int) != 44) = false := by simp; omega
                  have t44' : ((x : Int) == 44) = true := by simp; omega
                  have hL44 : L[k] = 44 := UInt8.toNat_inj.1 (by rw [hx, hx44]; rfl)
                  rw [hL44] at hdr
                  have hr0 := HREST.out
                  rw [hdr] at hr0
                  have hw0 : numW ((L.drop (k + 1)).takeWhile digC) = none → res = none := fun h => by rw [← hr0, rest_none hpos (by omega) h]
                  have hw1 : ∀ v, numW ((L.drop (k + 1)).takeWhile digC) = some v → restP (i + 1) (l ++ [v]) ((L.drop (k + 1)).dropWhile digC) = res := fun v h => by rw [← hr0, rest_some hpos (by omega) h]
                  have hk1 : k + 1 ≤ n := hkn
                  obtain ⟨K, hK⟩ : ∃ K, k + 1 = K := ⟨_, rfl⟩
                  rw [hK] at hw0 hw1 hk1
                  have hKi : (k : Int) + 1 = (K : Int) := by omega
                  have HW0 := Lib.hid hw0
                  have HW1 := Lib.hid hw1
                  clear hw0 hw1 hr0 hdr hL44 hx44 hx hkL hK hk
                  have hk := hk1
                  clear hk1
                  go_wp2_with fail
                  clear hKi
            all_goals
              have hnb := numb_calls wr L B HB.out HL.out K (by rw [HN.out]; exact hk)
              have hdw := drop_takeWhile digC (L.drop K)
              have hWl : ((L.drop K).takeWhile digC).length ≤ n - K := by
                have := (List.takeWhile_prefix (l := L.drop K) digC).length_le
                rwa [List.length_drop, HN.out] at this
              have hw0 := HW0.out
              have hw1 := HW1.out
              obtain ⟨W, hW⟩ : ∃ W, (L.drop K).takeWhile digC = W := ⟨_, rfl⟩
              rw [hW] at hnb hdw hWl hw0 hw1
              rw [List.drop_drop] at hdw
              obtain ⟨K2, hK2⟩ : ∃ K2, K + W.length = K2 := ⟨_, rfl⟩
              rw [hK2] at hnb hdw
              have hK2n : K2 ≤ n := by omega
              have HNB := Lib.hid hnb
              have HDW := Lib.hid hdw
              have HV0 := Lib.hid hw0
              have HV1 := Lib.hid hw1
              clear hnb hdw hw0 hw1 hW hK2 HW0 HW1
              refine HNB.out.mono ?_
              rintro en _ ⟨rfl, rfl⟩
              go_wp2_with fail
              refine (refNumber_calls wr W 255 (by omega)).mono ?_
              rintro en _ ⟨rfl, rfl⟩
              cases hnum : numD W 255 with
              | none =>
                rw [show numR none = Value.tuple #[.int .i64 0, .bool false] from rfl]
                have HN0 := Lib.hid (HV0.out (by unfold numW; rw [numA_val, hnum]; split <;> rfl))
                clear hnum
                go_wp2_with fail
                refine bodyPost_ret (results_cell_row2 rfl _ _ w.heap.size 29 _ (0, 0) _ (.bool false) rfl rfl (blk5 HBR.out 0 0 0 0 0) Tryd.underlying29 rfl (by kernel_rfl)) rfl ?_
                exact ⟨by rw [HPN.out HN0.out]; rfl, kept5 HKR.out _ _ _ _ _⟩
              | some v =>
                rw [show numR (some v) = Value.tuple #[.int .i64 v, .bool true] from rfl]
                cases Decidable.em (W.length ≤ 3) with
                | inr h3 =>
                  have HN0 := Lib.hid (HV0.out (by unfold numW; rw [if_neg h3]))
                  have t3 : (3 : Int) < (W.length : Int) := by omega
                  clear hnum h3
                  go_wp2_with fail
                  refine bodyPost_ret (results_cell_row2 rfl _ _ w.heap.size 29 _ (0, 0) _ (.bool false) rfl rfl (blk5 HBR.out 0 0 0 0 0) Tryd.underlying29 rfl (by kernel_rfl)) rfl ?_
                  exact ⟨by rw [HPN.out HN0.out]; rfl, kept5 HKR.out _ _ _ _ _⟩
                | inl h3 =>
                  have HY := Lib.hid (HV1.out v (by unfold numW; rw [if_pos h3, numA_val, hnum]))
                  have t3 : ¬ (3 : Int) < (W.length : Int) := by omega
                  have t3' : decide ((3 : Int) < (W.length : Int)) = false := by simp; omega
                  clear hnum h3
                  go_wp2_with (at_builtin; refine wpList_app1 (W := wr) rfl _ _ 39 3 (.int .i64 0) 8 rfl Tryd.underlying39 info_int rfl (by decide) (fun b => w1.heap.size ≤ b) (.slice A5 i c5) (intsV l) (.int .i64 v) rfl rfl rfl HROW.out (fun k hk => Nat.le_trans HKP.out.size hk) (by rw [intsV_length, HLL.out]; omega) ?_; intro v5 w5 hrow5 hk5 hob5)
                  go_roundg (6 - (i + 1))
                  case measure => have := HG.out; omega
                  case rel =>
                    exact ⟨i + 1, K2, l ++ [v], by omega, rfl, by go_num, rfl, by rw [HN.out]; exact hK2n, by rw [List.length_append, HLL.out]; rfl, by rw [show intsV (l ++ [v]) = intsV l ++ [.int .i64 v] by simp [intsV]]; exact hrow5, by rw [HDW.out]; exact HY.out, HKP.out.trans hk5 fun b hb => .inr (HROW.out.2 b hb)⟩
          · obtain rfl : i = 6 := by omega
            have hres6 := HREST.out
            rw [restP, if_neg (by decide), if_pos rfl] at hres6
            obtain ⟨a, b, c, d, e, f, hle⟩ := list6 l HLL.out
            subst hle
            have hpl := HPS.out a b c d e f hres6.symm
            have hbd := (refK_bd 5 _ _ (HRES.out.trans hres6.symm)).2
            obtain ⟨he0, he1⟩ := hbd e (by simp)
            obtain ⟨hf0, hf1⟩ := hbd f (by simp)
            obtain ⟨A5, c5, hv5, hc5, hrd⟩ := HROW.out.readsN (n := 6) rfl
            subst hv5
            obtain ⟨ad, rfl, hadS, hadl, hcell⟩ := hrd.2 (by omega)
            have d0 : wr.cell? ad = some (.int .i64 a) := by simpa [add_zero_] using hcell 0 _ rfl
            have d1 : wr.cell? ⟨ad.block, ad.off + 1, none⟩ = some (.int .i64 b) := hcell 1 _ rfl
            have d2 : wr.cell? ⟨ad.block, ad.off + 2, none⟩ = some (.int .i64 c) := hcell 2 _ rfl
            have d3 : wr.cell? ⟨ad.block, ad.off + 3, none⟩ = some (.int .i64 d) := hcell 3 _ rfl
            have d4 : wr.cell? ⟨ad.block, ad.off + 4, none⟩ = some (.int .i64 e) := hcell 4 _ rfl
            have d5 : wr.cell? ⟨ad.block, ad.off + 5, none⟩ = some (.int .i64 f) := hcell 5 _ rfl
            have HR := Lib.hid hpl
            clear hpl hbd hrd hcell hres6
            have t6 : ¬ (6 : Int) < 6 := by omega
            go_wp2_with fail
            have tw : IntKind.i64.wrap (e * 256) = e * 256 := IntWalk.i64_in _ (by omega)
            have tw2 : IntKind.i64.wrap (e * 256 + f) = e * 256 + f := IntWalk.i64_in _ (by omega)
            go_region_held3 (fun w' => w'.cell? ad = some (.int .i64 a) ∧ w'.cell? ⟨ad.block, ad.off + 1, none⟩ = some (.int .i64 b) ∧ w'.cell? ⟨ad.block, ad.off + 2, none⟩ = some (.int .i64 c) ∧ w'.cell? ⟨ad.block, ad.off + 3, none⟩ = some (.int .i64 d) ∧ w'.cell? ⟨ad.block, ad.off + 4, none⟩ = some (.int .i64 e) ∧ w'.cell? ⟨ad.block, ad.off + 5, none⟩ = some (.int .i64 f)) (first | exact ⟨d0, d1, d2, d3, d4, d5⟩ | exact ⟨(((Kept.refl wr NoB).alloc _).drew).cell d0 (fun x => x), (((Kept.refl wr NoB).alloc _).drew).cell d1 (fun x => x), (((Kept.refl wr NoB).alloc _).drew).cell d2 (fun x => x), (((Kept.refl wr NoB).alloc _).drew).cell d3 (fun x => x), (((Kept.refl wr NoB).alloc _).drew).cell d4 (fun x => x), (((Kept.refl wr NoB).alloc _).drew).cell d5 (fun x => x)⟩) (first | fail)
            have hp : e * 256 + f = 0 ∨ ¬ e * 256 + f = 0 := Decidable.em _
            rcases hp with hp | hp
            · have hp' : ((e * 256 + f : Int) == 0) = true := by rw [beq_iff_eq]; exact hp
              have HP := Lib.hid hp
              clear hp
              go_wp2_with fail
              refine bodyPost_ret (results_cell_row2 rfl _ _ w.heap.size 29 _ (0, 0) _ (.bool false) rfl rfl ((blk5 HBR.out 0 0 0 0 0).alloc _).drew Tryd.underlying29 rfl (by kernel_rfl)) rfl ?_
              exact ⟨by rw [HR.out, if_pos HP.out]; rfl, ((kept5 HKR.out _ _ _ _ _).alloc _).drew⟩
            · have hp' : ((e * 256 + f : Int) == 0) = false := by rw [beq_eq_false_iff_ne]; exact hp
              have HP := Lib.hid hp
              clear hp
              go_wp2_with fail
              refine bodyPost_ret (results_cell_row2 rfl _ _ w.heap.size 29 _ (0, 0) _ (.bool true) rfl rfl ((blk5 HBR.out a b c d (e * 256 + f)).alloc _).drew Tryd.underlying29 rfl (by kernel_rfl)) rfl ?_
              exact ⟨by rw [HR.out, if_neg HP.out]; rfl, ((kept5 HKR.out _ _ _ _ _).alloc _).drew⟩
end Go.Proofs.YtlbipnfnimekfaaDoor
