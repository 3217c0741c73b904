/- AddrSix' walk. -/
import Derived.Test.YtlbipnfnimekfaaDoorAddrX
import Derived.Laws.BitsAllLaws
set_option linter.unusedVariables false
set_option linter.unusedSimpArgs false
namespace Go.Proofs.YtlbipnfnimekfaaDoor
open Go.RowKit Go.Shelf Go.Lib

/-- The digits of a number, noughts ahead. -/
def sixD (U Z : Nat → Nat) (i : Nat) : List UInt8 := List.replicate (Z i) 48 ++ decDigits (U i)
/-- Of i numbers: the text, whether all are fine, the last one, and the port. -/
def sixS (U Z : Nat → Nat) : Nat → List UInt8
  | 0 => []
  | i + 1 => (if 0 < i then sixS U Z i ++ [44] else sixS U Z i) ++ sixD U Z i
def sixF (U Z : Nat → Nat) : Nat → Bool
  | 0 => true
  | i + 1 => if i < 6 then sixF U Z i && (decide ((sixD U Z i).length ≤ 3) && decide (U i ≤ 255)) else sixF U Z i
def sixL (U : Nat → Nat) : Nat → Nat
  | 0 => 0
  | i + 1 => if i < 6 then U i else sixL U i
def sixP (U : Nat → Nat) : Nat → Nat
  | 0 => 0
  | i + 1 => if i < 6 then sixL U i * 256 + U i else sixP U i
theorem jn_app (d : List UInt8) : ∀ ds : List (List UInt8), ds ≠ [] → jn (ds ++ [d]) = jn ds ++ 44 :: d
  | [], h => absurd rfl h
  | [e], _ => by simp [jn]
  | e :: f :: ds, _ => by
    have := jn_app d (f :: ds) (by simp)
    simp only [List.cons_append] at this ⊢
    rw [jn_cons, jn_cons, this]
    simp
theorem sixS_jn (U Z : Nat → Nat) : ∀ i, sixS U Z (i + 1) = jn ((List.range (i + 1)).map (sixD U Z))
  | 0 => by simp [sixS, jn]
  | i + 1 => by
    rw [sixS, if_pos (by omega), sixS_jn U Z i, List.range_succ (n := i + 1), List.map_append, List.map_cons, List.map_nil, jn_app _ _ (by simp)]
    simp
theorem sixD_len (U Z : Nat → Nat) (i : Nat) (hu : U i ≤ 1023) (hz : Z i ≤ 3) : (sixD U Z i).length ≤ 23 := by
  have := dec_len (X := U i) (by omega)
  unfold sixD
  rw [List.length_append, List.length_replicate]
  omega
theorem sixS_len (U Z : Nat → Nat) (hu : ∀ i, U i ≤ 1023) (hz : ∀ i, Z i ≤ 3) : ∀ i, (sixS U Z i).length ≤ 24 * i
  | 0 => by simp [sixS]
  | i + 1 => by
    have h1 := sixS_len U Z hu hz i
    have h2 := sixD_len U Z i (hu i) (hz i)
    rw [sixS, List.length_append]
    split
    · rw [List.length_append]
      simp only [List.length_cons, List.length_nil]
      omega
    · omega
theorem sixL_bd (U : Nat → Nat) (hu : ∀ i, U i ≤ 1023) : ∀ i, sixL U i ≤ 1023
  | 0 => by simp [sixL]
  | i + 1 => by
    rw [sixL]
    split
    · exact hu i
    · exact sixL_bd U hu i
theorem sixP_bd (U : Nat → Nat) (hu : ∀ i, U i ≤ 1023) : ∀ i, sixP U i ≤ 263000
  | 0 => by simp [sixP]
  | i + 1 => by
    have h1 := sixL_bd U hu i
    have h2 := hu i
    rw [sixP]
    split
    · omega
    · exact sixP_bd U hu i
def sixC (U Z : Nat → Nat) (j : Nat) : Prop := (sixD U Z j).length ≤ 3 ∧ U j ≤ 255
theorem sixF_iff (U Z : Nat → Nat) (m : Nat) (h6 : 6 ≤ m) (h8 : m ≤ 8) : sixF U Z m = true ↔ ∀ j < 6, sixC U Z j := by
  have e : sixF U Z m = sixF U Z 6 := by
    rcases (show m = 6 ∨ m = 7 ∨ m = 8 by omega) with rfl | rfl | rfl <;> rfl
  rw [e]
  simp only [sixF, show (0 : Nat) < 6 by omega, show (1 : Nat) < 6 by omega, show (2 : Nat) < 6 by omega, show (3 : Nat) < 6 by omega, show (4 : Nat) < 6 by omega, show (5 : Nat) < 6 by omega, if_true, Bool.and_eq_true, decide_eq_true_eq, true_and]
  constructor
  · rintro ⟨⟨⟨⟨⟨h0, h1⟩, h2⟩, h3⟩, h4⟩, h5⟩ j hj
    rcases (show j = 0 ∨ j = 1 ∨ j = 2 ∨ j = 3 ∨ j = 4 ∨ j = 5 by omega) with rfl | rfl | rfl | rfl | rfl | rfl
    · exact h0
    · exact h1
    · exact h2
    · exact h3
    · exact h4
    · exact h5
  · intro h
    exact ⟨⟨⟨⟨⟨h 0 (by omega), h 1 (by omega)⟩, h 2 (by omega)⟩, h 3 (by omega)⟩, h 4 (by omega)⟩, h 5 (by omega)⟩
theorem sixP_at (U : Nat → Nat) (m : Nat) (h6 : 6 ≤ m) (h8 : m ≤ 8) : sixP U m = U 4 * 256 + U 5 := by
  rcases (show m = 6 ∨ m = 7 ∨ m = 8 by omega) with rfl | rfl | rfl <;> rfl
theorem numW_six (U Z : Nat → Nat) (j : Nat) : numW (sixD U Z j) = if (sixD U Z j).length ≤ 3 ∧ U j ≤ 255 then some (U j : Int) else none := numW_zeros (Z j) (U j)
theorem take_six (f : Nat → List UInt8) (m : Nat) (h6 : 6 ≤ m) : ((List.range m).map f).take 6 = [f 0, f 1, f 2, f 3, f 4, f 5] := by
  have e : ((List.range m).map f).take 6 = (List.range 6).map f := by
    rw [← List.map_take, List.take_range, Nat.min_eq_left h6]
  rw [e]
  rfl
open Classical in
theorem six_law (U Z : Nat → Nat) (m : Nat) (h8 : m ≤ 8) : pasvL ([97, 116, 32] ++ (sixS U Z m ++ [46])) =
    if 6 ≤ m ∧ sixF U Z m = true ∧ 0 < sixP U m then some ⟨U 0, U 1, U 2, U 3, sixP U m⟩ else none := by
  cases m with
  | zero => rw [if_neg (by omega)]; kernel_rfl
  | succ m =>
    have hdig : ∀ d ∈ (List.range (m + 1)).map (sixD U Z), isDig d := by
      intro d hd
      obtain ⟨j, _, rfl⟩ := List.mem_map.1 hd
      exact zeros_isDig _ _
    rw [sixS_jn, pasv_jn (by intro c hc; simp only [List.mem_cons, List.not_mem_nil, or_false] at hc; rcases hc with rfl | rfl | rfl <;> rfl) (by intro c t h; injection h with h _; subst h; exact ⟨rfl, .inl (by decide)⟩) (by simp) hdig]
    have hlen : ((List.range (m + 1)).map (sixD U Z)).length = m + 1 := by simp
    rw [hlen]
    by_cases h6 : 6 ≤ m + 1
    · rw [if_pos h6, take_six _ _ h6]
      by_cases hf : sixF U Z (m + 1) = true
      · have hc := (sixF_iff U Z (m + 1) h6 h8).1 hf
        unfold sixC at hc
        simp only [allNum, numW_six, if_pos (hc 0 (by omega)), if_pos (hc 1 (by omega)), if_pos (hc 2 (by omega)), if_pos (hc 3 (by omega)), if_pos (hc 4 (by omega)), if_pos (hc 5 (by omega)), Option.bind_some, Option.map_some]
        rw [sixP_at U _ h6 h8]
        by_cases hp : (U 4 : Int) * 256 + (U 5 : Int) = 0
        · rw [if_pos hp, if_neg (by omega)]
        · rw [if_neg hp, if_pos ⟨h6, hf, by omega⟩]
          congr 1
      · rw [if_neg (fun h => hf h.2.1)]
        have : ∃ j, j < 6 ∧ ¬ sixC U Z j := by
          refine Classical.byContradiction fun hn => hf ((sixF_iff U Z (m + 1) h6 h8).2 fun j hj => ?_)
          exact Classical.byContradiction fun hc => hn ⟨j, hj, hc⟩
        obtain ⟨j, hj, hc⟩ := this
        have hnone : numW (sixD U Z j) = none := by rw [numW_six]; exact if_neg hc
        rw [allNum_none (w := sixD U Z j) (by
          rcases (show j = 0 ∨ j = 1 ∨ j = 2 ∨ j = 3 ∨ j = 4 ∨ j = 5 by omega) with rfl | rfl | rfl | rfl | rfl | rfl <;> simp) hnone]
    · rw [if_neg h6, if_neg (fun h => h6 h.1)]
def SxS (w0 : World) (U Z : Nat → Nat) (m gk : Nat) (v4 v5 v6 v7 v8 v9 : Value) (wr : World) : Prop :=
  ∃ i, i ≤ m ∧ gk = m - i ∧ v4 = .string (strB (sixS U Z i)) ∧ v5 = .int .i64 (i : Int) ∧ v6 = .bool (sixF U Z i) ∧ v7 = .int .i64 ((sixL U i : Nat) : Int) ∧ v8 = .int .i64 ((sixP U i : Nat) : Int) ∧ v9 = .int .i64 (i : Int) ∧ Kept w0 wr NoB
def SxT (wr0 : World) (u z gk : Nat) (v10 v11 : Value) (wr : World) : Prop :=
  ∃ k, k ≤ z ∧ gk = z - k ∧ v10 = .string (strB (List.replicate k 48 ++ decDigits u)) ∧ v11 = .int .i64 (k : Int) ∧ wr0 = wr
theorem and3 (y : Nat) (h : y < 256) : bits .and .u8 (y : Int) 3 = ((y % 4 : Nat) : Int) := by
  have := u8_and_nat y 3 h (by omega)
  rw [show y &&& 3 = y % 4 from Nat.and_two_pow_sub_one_eq_mod y 2] at this
  exact this
theorem and1023 (y : Nat) (h : y < 65536) : bits .and .u16 (y : Int) 1023 = ((y % 1024 : Nat) : Int) := by
  have := u16_and_nat y 1023 h (by omega)
  rw [show y &&& 1023 = y % 1024 from Nat.and_two_pow_sub_one_eq_mod y 10] at this
  exact this
set_option maxHeartbeats 8000000 in
set_option maxRecDepth 100000 in
theorem six_walk (w : World) (A B : Option Addr) (n c nn cc : Nat) (U Z : Nat → Nat) (hc : n ≤ c) (hcc : nn ≤ cc) (hn : n ≤ 140737488351232) (hnn : nn ≤ 140737488351232) (hU : ∀ i, U i ≤ 1023) (hZ : ∀ i, Z i ≤ 3)
    (hA : ∀ i, i < n → ∃ ad x, A = some ad ∧ w.cell? (ad.add i) = some (.int .u16 ((x : Nat) : Int)) ∧ x < 65536 ∧ x % 1024 = U i)
    (hB : ∀ i, i < nn → ∃ ad x, B = some ad ∧ w.cell? (ad.add i) = some (.int .u8 ((x : Nat) : Int)) ∧ x < 256 ∧ x % 4 = Z i) (hBo : ∀ i, nn ≤ i → Z i = 0) (hL : LdT w) :
    Calls Tryd.prog 3 #[.slice A n c, .slice B nn cc] w fun en w' => en = .returned (.bool true) ∧ Below w.heap.size w w' := by
  have HA := Lib.hid hA
  have HB := Lib.hid hB
  have HBO := Lib.hid hBo
  have HU := Lib.hid hU
  have HZ := Lib.hid hZ
  have HL := Lib.hid hL
  obtain ⟨m, hm⟩ : ∃ m, min n 8 = m := ⟨_, rfl⟩
  have hm8 : m ≤ 8 := by omega
  have hmn : m ≤ n := by omega
  have HM : Hid (m = n ∨ m = 8) := Lib.hid (by omega)
  clear hA hB hBo hU hZ hL hm
  go_enter Tryd.func3, Tryd.ntmps3
  go_wp2_with fail
  refine (shown_calls w HL.out).mono ?_
  rintro en w1 ⟨rfl, hk⟩
  have HK1 := Lib.hid hk
  clear hk
  go_wp2_with fail
  go_loopg [6, 7, 8, 9, 10, 11] m (fun gk v4 v5 v6 v7 v8 v9 wr => SxS w U Z m gk v4 v5 v6 v7 v8 v9 wr)
  case atStart => exact ⟨0, Nat.zero_le _, rfl, rfl, rfl, rfl, rfl, rfl, rfl, HK1.out⟩
  case round =>
    obtain ⟨i, hi, hgk, rfl, rfl, rfl, rfl, rfl, rfl, hk⟩ := hrel
    have HG := Lib.hid hgk
    have HK := Lib.hid hk
    clear hgk hk
    rcases Nat.lt_or_ge i m with hlt | hge
    · obtain ⟨ad, x, hAd, hcx, hx, hxu⟩ := HA.out i (by omega)
      subst hAd
      have hcx' := HK.out.cell hcx (fun q => q)
      have t0 : (i : Int) < (n : Int) := by omega
      have t8 : (i : Int) < 8 := by omega
      have ti : i < n := by omega
      have hu := HU.out i
      have hz := HZ.out i
      have ha1 := mask1023 (x : Int)
      have ha2 := and1023 x hx
      rw [hxu] at ha2
      have ha1' : bits .and .i64 (x : Int) 1023 = ((U i : Nat) : Int) := by rw [ha1]; omega
      have hsS : sixS U Z (i + 1) = (if 0 < i then sixS U Z i ++ [44] else sixS U Z i) ++ sixD U Z i := rfl
      have hsF : sixF U Z (i + 1) = if i < 6 then sixF U Z i && (decide ((sixD U Z i).length ≤ 3) && decide (U i ≤ 255)) else sixF U Z i := rfl
      have hsL : sixL U (i + 1) = if i < 6 then U i else sixL U i := rfl
      have hsP : sixP U (i + 1) = if i < 6 then sixL U i * 256 + U i else sixP U i := rfl
      have hSl := sixS_len U Z HU.out HZ.out i
      have hDl := sixD_len U Z i hu hz
      have hLb := sixL_bd U HU.out i
      have hPb := sixP_bd U HU.out i
      have hdd : sixD U Z i = List.replicate (Z i) 48 ++ decDigits (U i) := rfl
      have HD := Lib.hid (lawDig (U i) (U i) (Nat.le_refl _) (by omega) ((U i : Nat) : Int) rfl)
      have hBi := HB.out i
      have hBo := HBO.out i
      obtain ⟨P, hP⟩ : ∃ P, sixS U Z i = P := ⟨_, rfl⟩
      obtain ⟨D, hDe⟩ : ∃ D, sixD U Z i = D := ⟨_, rfl⟩
      obtain ⟨F, hF⟩ : ∃ F, sixF U Z i = F := ⟨_, rfl⟩
      obtain ⟨La, hLa⟩ : ∃ q, sixL U i = q := ⟨_, rfl⟩
      obtain ⟨Po, hPo⟩ : ∃ q, sixP U i = q := ⟨_, rfl⟩
      obtain ⟨u, hue⟩ : ∃ u, U i = u := ⟨_, rfl⟩
      obtain ⟨z, hze⟩ : ∃ z, Z i = z := ⟨_, rfl⟩
      rw [hP, hDe] at hsS
      rw [hDe, hF, hue] at hsF
      rw [hue, hLa] at hsL
      rw [hLa, hue, hPo] at hsP
      rw [hP] at hSl
      rw [hDe] at hDl hdd
      rw [hLa] at hLb
      rw [hPo] at hPb
      rw [hze, hue] at hdd
      rw [hue] at ha1' ha2 hu HD
      rw [hze] at hz hBi hBo
      rw [hP, hF, hLa, hPo]
      have HSS := Lib.hid hsS
      have HSF := Lib.hid hsF
      have HSL := Lib.hid hsL
      have HSP := Lib.hid hsP
      have HDD := Lib.hid hdd
      have HBI := Lib.hid hBi
      have HBOI := Lib.hid hBo
      clear hsS hsF hsL hsP hdd ha1 hxu hBi hBo hP hDe hF hLa hPo hue hze hcx
      have hSl' : P.length ≤ 200 := by omega
      clear hSl
      go_wp2_with fail
      refine (HD.out _).mono ?_
      rintro en _ ⟨rfl, rfl⟩
      go_wp2_with fail
      go_loopg [12, 13] z (fun gk v10 v11 wr' => SxT wr u z gk v10 v11 wr')
      case atStart => exact ⟨0, Nat.zero_le _, rfl, rfl, rfl, rfl⟩
      case round =>
        obtain ⟨k, hk, hgk2, rfl, rfl, rfl⟩ := hrel
        have HG2 := Lib.hid hgk2
        clear hgk2
        rcases Nat.lt_or_ge i nn with hinn | hinn
        · obtain ⟨bd, y, hBd, hcy, hy, hyz⟩ := HBI.out hinn
          subst hBd
          have hcy' := HK.out.cell hcy (fun q => q)
          have h3 := and3 y hy
          rw [hyz] at h3
          have tn : (i : Int) < (nn : Int) := by omega
          clear hcy hyz
          rcases Nat.lt_or_ge k z with hkz | hkz
          · have tk : (k : Int) < (z : Int) := by omega
            have e0 := dg_app [48] (List.replicate k 48 ++ decDigits u)
            obtain ⟨X, hX⟩ : ∃ X, List.replicate k 48 ++ decDigits u = X := ⟨_, rfl⟩
            have hXl : X.length ≤ 23 := by have := dec_len (X := u) (by omega); rw [← hX, List.length_append, List.length_replicate]; omega
            rw [hX] at e0 ⊢
            have HX := Lib.hid hX
            clear hX
            have e0' : (⟨#[48]⟩ : ByteArray) ++ strB X = strB (48 :: X) := e0
            clear e0
            go_wp2_with fail
            go_roundg (z - (k + 1))
            case measure => have := HG2.out; omega
            case rel => exact ⟨k + 1, hkz, rfl, by rw [List.replicate_succ, List.cons_append, HX.out], by go_num, rfl⟩
          · obtain rfl : k = z := by omega
            have tk : ¬ (k : Int) < (k : Int) := by omega
            have eD : strB (List.replicate k 48 ++ decDigits u) = strB D := by rw [HDD.out]
            rw [eD]
            clear eD
            by_cases hi0 : 0 < i
            · have ti0 : (0 : Int) < (i : Int) := by omega
              have e1 := comma_app P
              have e2 := dg_app (P ++ [44]) D
              have hl1 : (P ++ [44]).length ≤ 201 := by rw [List.length_append]; simp only [List.length_cons, List.length_nil]; omega
              by_cases hi6 : i < 6
              · have ti6 : (i : Int) < 6 := by omega
                cases F with
                | false =>
                  go_wp2_with fail
                  go_roundg (m - (i + 1))
                  case measure => have := HG.out; omega
                  case rel => exact ⟨i + 1, hlt, rfl, by rw [HSS.out]; simp [hi0], by go_num, by rw [HSF.out]; simp [hi6], by rw [HSL.out]; rw [if_pos hi6], by rw [HSP.out]; rw [if_pos hi6]; simp, by go_num, HK.out⟩
                | true =>
                  by_cases h3 : D.length ≤ 3
                  · have t3 : (D.length : Int) ≤ 3 := by omega
                    by_cases h255 : u ≤ 255
                    · have t255 : (u : Int) ≤ 255 := by omega
                      go_wp2_with fail
                      go_roundg (m - (i + 1))
                      case measure => have := HG.out; omega
                      case rel => exact ⟨i + 1, hlt, rfl, by rw [HSS.out]; simp [hi0], by go_num, by rw [HSF.out]; simp [hi6, h3, h255], by rw [HSL.out]; rw [if_pos hi6], by rw [HSP.out]; rw [if_pos hi6]; simp, by go_num, HK.out⟩
                    · have t255 : ¬ (u : Int) ≤ 255 := by omega
                      have t255' : decide ((u : Int) ≤ 255) = false := decide_eq_false t255
                      go_wp2_with fail
                      go_roundg (m - (i + 1))
                      case measure => have := HG.out; omega
                      case rel => exact ⟨i + 1, hlt, rfl, by rw [HSS.out]; simp [hi0], by go_num, by rw [HSF.out]; simp [hi6, h3, h255], by rw [HSL.out]; rw [if_pos hi6], by rw [HSP.out]; rw [if_pos hi6]; simp, by go_num, HK.out⟩
                  · have t3 : ¬ (D.length : Int) ≤ 3 := by omega
                    have t3' : decide ((D.length : Int) ≤ 3) = false := decide_eq_false t3
                    go_wp2_with fail
                    go_roundg (m - (i + 1))
                    case measure => have := HG.out; omega
                    case rel => exact ⟨i + 1, hlt, rfl, by rw [HSS.out]; simp [hi0], by go_num, by rw [HSF.out]; simp [hi6, h3], by rw [HSL.out]; rw [if_pos hi6], by rw [HSP.out]; rw [if_pos hi6]; simp, by go_num, HK.out⟩
              · have ti6 : ¬ (i : Int) < 6 := by omega
                go_wp2_with fail
                go_roundg (m - (i + 1))
                case measure => have := HG.out; omega
                case rel => exact ⟨i + 1, hlt, rfl, by rw [HSS.out]; simp [hi0], by go_num, by rw [HSF.out]; rw [if_neg hi6], by rw [HSL.out]; rw [if_neg hi6], by rw [HSP.out]; rw [if_neg hi6], by go_num, HK.out⟩
            · have ti0 : ¬ (0 : Int) < (i : Int) := by omega
              have e2 := dg_app P D
              by_cases hi6 : i < 6
              · have ti6 : (i : Int) < 6 := by omega
                cases F with
                | false =>
                  go_wp2_with fail
                  go_roundg (m - (i + 1))
                  case measure => have := HG.out; omega
                  case rel => exact ⟨i + 1, hlt, rfl, by rw [HSS.out]; simp [hi0], by go_num, by rw [HSF.out]; simp [hi6], by rw [HSL.out]; rw [if_pos hi6], by rw [HSP.out]; rw [if_pos hi6]; simp, by go_num, HK.out⟩
                | true =>
                  by_cases h3 : D.length ≤ 3
                  · have t3 : (D.length : Int) ≤ 3 := by omega
                    by_cases h255 : u ≤ 255
                    · have t255 : (u : Int) ≤ 255 := by omega
                      go_wp2_with fail
                      go_roundg (m - (i + 1))
                      case measure => have := HG.out; omega
                      case rel => exact ⟨i + 1, hlt, rfl, by rw [HSS.out]; simp [hi0], by go_num, by rw [HSF.out]; simp [hi6, h3, h255], by rw [HSL.out]; rw [if_pos hi6], by rw [HSP.out]; rw [if_pos hi6]; simp, by go_num, HK.out⟩
                    · have t255 : ¬ (u : Int) ≤ 255 := by omega
                      have t255' : decide ((u : Int) ≤ 255) = false := decide_eq_false t255
                      go_wp2_with fail
                      go_roundg (m - (i + 1))
                      case measure => have := HG.out; omega
                      case rel => exact ⟨i + 1, hlt, rfl, by rw [HSS.out]; simp [hi0], by go_num, by rw [HSF.out]; simp [hi6, h3, h255], by rw [HSL.out]; rw [if_pos hi6], by rw [HSP.out]; rw [if_pos hi6]; simp, by go_num, HK.out⟩
                  · have t3 : ¬ (D.length : Int) ≤ 3 := by omega
                    have t3' : decide ((D.length : Int) ≤ 3) = false := decide_eq_false t3
                    go_wp2_with fail
                    go_roundg (m - (i + 1))
                    case measure => have := HG.out; omega
                    case rel => exact ⟨i + 1, hlt, rfl, by rw [HSS.out]; simp [hi0], by go_num, by rw [HSF.out]; simp [hi6, h3], by rw [HSL.out]; rw [if_pos hi6], by rw [HSP.out]; rw [if_pos hi6]; simp, by go_num, HK.out⟩
              · have ti6 : ¬ (i : Int) < 6 := by omega
                go_wp2_with fail
                go_roundg (m - (i + 1))
                case measure => have := HG.out; omega
                case rel => exact ⟨i + 1, hlt, rfl, by rw [HSS.out]; simp [hi0], by go_num, by rw [HSF.out]; rw [if_neg hi6], by rw [HSL.out]; rw [if_neg hi6], by rw [HSP.out]; rw [if_neg hi6], by go_num, HK.out⟩
        · have hz0 : z = 0 := HBOI.out hinn
          obtain rfl : k = z := by omega
          have tn : ¬ (i : Int) < (nn : Int) := by omega
          have tn' : decide ((i : Int) < (nn : Int)) = false := decide_eq_false tn
          have eD : strB (List.replicate k 48 ++ decDigits u) = strB D := by rw [HDD.out]
          rw [eD]
          clear eD
          by_cases hi0 : 0 < i
          · have ti0 : (0 : Int) < (i : Int) := by omega
            have e1 := comma_app P
            have e2 := dg_app (P ++ [44]) D
            have hl1 : (P ++ [44]).length ≤ 201 := by rw [List.length_append]; simp only [List.length_cons, List.length_nil]; omega
            by_cases hi6 : i < 6
            · have ti6 : (i : Int) < 6 := by omega
              cases F with
              | false =>
                go_wp2_with fail
                go_roundg (m - (i + 1))
                case measure => have := HG.out; omega
                case rel => exact ⟨i + 1, hlt, rfl, by rw [HSS.out]; simp [hi0], by go_num, by rw [HSF.out]; simp [hi6], by rw [HSL.out]; rw [if_pos hi6], by rw [HSP.out]; rw [if_pos hi6]; simp, by go_num, HK.out⟩
              | true =>
                by_cases h3 : D.length ≤ 3
                · have t3 : (D.length : Int) ≤ 3 := by omega
                  by_cases h255 : u ≤ 255
                  · have t255 : (u : Int) ≤ 255 := by omega
                    go_wp2_with fail
                    go_roundg (m - (i + 1))
                    case measure => have := HG.out; omega
                    case rel => exact ⟨i + 1, hlt, rfl, by rw [HSS.out]; simp [hi0], by go_num, by rw [HSF.out]; simp [hi6, h3, h255], by rw [HSL.out]; rw [if_pos hi6], by rw [HSP.out]; rw [if_pos hi6]; simp, by go_num, HK.out⟩
                  · have t255 : ¬ (u : Int) ≤ 255 := by omega
                    have t255' : decide ((u : Int) ≤ 255) = false := decide_eq_false t255
                    go_wp2_with fail
                    go_roundg (m - (i + 1))
                    case measure => have := HG.out; omega
                    case rel => exact ⟨i + 1, hlt, rfl, by rw [HSS.out]; simp [hi0], by go_num, by rw [HSF.out]; simp [hi6, h3, h255], by rw [HSL.out]; rw [if_pos hi6], by rw [HSP.out]; rw [if_pos hi6]; simp, by go_num, HK.out⟩
                · have t3 : ¬ (D.length : Int) ≤ 3 := by omega
                  have t3' : decide ((D.length : Int) ≤ 3) = false := decide_eq_false t3
                  go_wp2_with fail
                  go_roundg (m - (i + 1))
                  case measure => have := HG.out; omega
                  case rel => exact ⟨i + 1, hlt, rfl, by rw [HSS.out]; simp [hi0], by go_num, by rw [HSF.out]; simp [hi6, h3], by rw [HSL.out]; rw [if_pos hi6], by rw [HSP.out]; rw [if_pos hi6]; simp, by go_num, HK.out⟩
            · have ti6 : ¬ (i : Int) < 6 := by omega
              go_wp2_with fail
              go_roundg (m - (i + 1))
              case measure => have := HG.out; omega
              case rel => exact ⟨i + 1, hlt, rfl, by rw [HSS.out]; simp [hi0], by go_num, by rw [HSF.out]; rw [if_neg hi6], by rw [HSL.out]; rw [if_neg hi6], by rw [HSP.out]; rw [if_neg hi6], by go_num, HK.out⟩
          · have ti0 : ¬ (0 : Int) < (i : Int) := by omega
            have e2 := dg_app P D
            by_cases hi6 : i < 6
            · have ti6 : (i : Int) < 6 := by omega
              cases F with
              | false =>
                go_wp2_with fail
                go_roundg (m - (i + 1))
                case measure => have := HG.out; omega
                case rel => exact ⟨i + 1, hlt, rfl, by rw [HSS.out]; simp [hi0], by go_num, by rw [HSF.out]; simp [hi6], by rw [HSL.out]; rw [if_pos hi6], by rw [HSP.out]; rw [if_pos hi6]; simp, by go_num, HK.out⟩
              | true =>
                by_cases h3 : D.length ≤ 3
                · have t3 : (D.length : Int) ≤ 3 := by omega
                  by_cases h255 : u ≤ 255
                  · have t255 : (u : Int) ≤ 255 := by omega
                    go_wp2_with fail
                    go_roundg (m - (i + 1))
                    case measure => have := HG.out; omega
                    case rel => exact ⟨i + 1, hlt, rfl, by rw [HSS.out]; simp [hi0], by go_num, by rw [HSF.out]; simp [hi6, h3, h255], by rw [HSL.out]; rw [if_pos hi6], by rw [HSP.out]; rw [if_pos hi6]; simp, by go_num, HK.out⟩
                  · have t255 : ¬ (u : Int) ≤ 255 := by omega
                    have t255' : decide ((u : Int) ≤ 255) = false := decide_eq_false t255
                    go_wp2_with fail
                    go_roundg (m - (i + 1))
                    case measure => have := HG.out; omega
                    case rel => exact ⟨i + 1, hlt, rfl, by rw [HSS.out]; simp [hi0], by go_num, by rw [HSF.out]; simp [hi6, h3, h255], by rw [HSL.out]; rw [if_pos hi6], by rw [HSP.out]; rw [if_pos hi6]; simp, by go_num, HK.out⟩
                · have t3 : ¬ (D.length : Int) ≤ 3 := by omega
                  have t3' : decide ((D.length : Int) ≤ 3) = false := decide_eq_false t3
                  go_wp2_with fail
                  go_roundg (m - (i + 1))
                  case measure => have := HG.out; omega
                  case rel => exact ⟨i + 1, hlt, rfl, by rw [HSS.out]; simp [hi0], by go_num, by rw [HSF.out]; simp [hi6, h3], by rw [HSL.out]; rw [if_pos hi6], by rw [HSP.out]; rw [if_pos hi6]; simp, by go_num, HK.out⟩
            · have ti6 : ¬ (i : Int) < 6 := by omega
              go_wp2_with fail
              go_roundg (m - (i + 1))
              case measure => have := HG.out; omega
              case rel => exact ⟨i + 1, hlt, rfl, by rw [HSS.out]; simp [hi0], by go_num, by rw [HSF.out]; rw [if_neg hi6], by rw [HSL.out]; rw [if_neg hi6], by rw [HSP.out]; rw [if_neg hi6], by go_num, HK.out⟩
    · obtain rfl : i = m := by omega
      have hlaw := six_law U Z i hm8
      have hPb := sixP_bd U HU.out i
      have hSl := sixS_len U Z HU.out HZ.out i
      obtain ⟨P, hP⟩ : ∃ P, sixS U Z i = P := ⟨_, rfl⟩
      obtain ⟨Fi, hF⟩ : ∃ F, sixF U Z i = F := ⟨_, rfl⟩
      obtain ⟨La, hLa⟩ : ∃ q, sixL U i = q := ⟨_, rfl⟩
      obtain ⟨Po, hPo⟩ : ∃ q, sixP U i = q := ⟨_, rfl⟩
      rw [hP, hF, hPo] at hlaw
      rw [hPo] at hPb
      rw [hP] at hSl
      rw [hP, hF, hLa, hPo]
      have hSl' : P.length ≤ 200 := by omega
      have e1 := dg_app [97, 116, 32] P
      have e1' : (⟨#[97, 116, 32]⟩ : ByteArray) ++ strB P = strB ([97, 116, 32] ++ P) := e1
      have e2 : strB ([97, 116, 32] ++ P) ++ (⟨#[46]⟩ : ByteArray) = strB ([97, 116, 32] ++ (P ++ [46])) := by rw [← List.append_assoc]; exact dg_app _ [46]
      have hl1 : ([97, 116, 32] ++ P).length ≤ 203 := by rw [List.length_append]; simp only [List.length_cons, List.length_nil]; omega
      have hl2 : ([97, 116, 32] ++ (P ++ [46])).length ≤ 1099511627 := by simp only [List.length_append, List.length_cons, List.length_nil]; omega
      obtain ⟨X1, hX1⟩ : ∃ X, [97, 116, 32] ++ P = X := ⟨_, rfl⟩
      obtain ⟨X2, hX2⟩ : ∃ X, [97, 116, 32] ++ (P ++ [46]) = X := ⟨_, rfl⟩
      rw [hX1] at e1' e2 hl1
      rw [hX2] at e2 hl2 hlaw
      clear e1 hX1 hX2 hP hF hLa hPo hSl
      have HLAW := Lib.hid hlaw
      clear hlaw
      rcases HM.out with hmm | hmm
      · have tx : ¬ (i : Int) < (n : Int) := by omega
        have tx' := decide_eq_false tx
        clear hmm
        go_wp2_with fail
        refine (pasv_calls wr X2 hl2 (HL.out.kept0 HK.out).m (HL.out.kept0 HK.out).e).mono ?_
        intro en w3 hpp
        obtain ⟨hen, hk3⟩ := hpp
        rw [HLAW.out] at hen
        have HK3 := Lib.hid (HK.out.trans' hk3)
        clear hk3
        by_cases hC : 6 ≤ i ∧ Fi = true ∧ 0 < Po
        · rw [if_pos hC, show adR (some ⟨(U 0 : Int), (U 1 : Int), (U 2 : Int), (U 3 : Int), (Po : Int)⟩) = .tuple #[.agg #[.int .i64 (U 0 : Int), .int .i64 (U 1 : Int), .int .i64 (U 2 : Int), .int .i64 (U 3 : Int), .int .i64 (Po : Int)], .bool true] from rfl] at hen
          subst hen
          obtain ⟨h6, rfl, hp0⟩ := hC
          have t6 : (6 : Int) ≤ (i : Int) := by omega
          have tp : (0 : Int) < (Po : Int) := by omega
          obtain ⟨ad, x0, hAd, hc0, hx0, hxu0⟩ := HA.out 0 (by omega)
          obtain ⟨ad', x3, hAd', hc3, hx3, hxu3⟩ := HA.out 3 (by omega)
          subst hAd
          injection hAd' with hAd'
          subst hAd'
          have d0 := (HK3.out.alloc (.cells #[.int .i64 (U 0 : Int), .int .i64 (U 1 : Int), .int .i64 (U 2 : Int), .int .i64 (U 3 : Int), .int .i64 (Po : Int)] 29)).cell hc0 (fun q => q)
          have d3 := (HK3.out.alloc (.cells #[.int .i64 (U 0 : Int), .int .i64 (U 1 : Int), .int .i64 (U 2 : Int), .int .i64 (U 3 : Int), .int .i64 (Po : Int)] 29)).cell hc3 (fun q => q)
          have b0 := and1023 x0 hx0
          have b3 := and1023 x3 hx3
          rw [hxu0] at b0
          rw [hxu3] at b3
          have u0 := HU.out 0
          have u3 := HU.out 3
          have d0' := d0
          rw [add_zero_] at d0'
          have d3' := d3
          rw [show ad.add 3 = (⟨ad.block, ad.off + 3, none⟩ : Addr) by simp [Addr.add]] at d3'
          have tn0 : (0 : Int) < (n : Int) := by omega
          have tn3 : (3 : Int) < (n : Int) := by omega
          clear hxu0 hxu3 hc0 hc3
          go_wp2_with fail
          go_quiet (fail)
          go_wp2_with fail
          go_ret
          exact ⟨rfl, ((HK3.out.alloc _).drewN _).below⟩
        · rw [if_neg hC, show adR none = .tuple #[.agg #[.int .i64 0, .int .i64 0, .int .i64 0, .int .i64 0, .int .i64 0], .bool false] from rfl] at hen
          subst hen
          cases Fi with
          | false =>
            clear hC
            go_wp2_with fail
            go_quiet (fail)
            go_wp2_with fail
            go_ret
            exact ⟨rfl, ((HK3.out.alloc _).drewN _).below⟩
          | true =>
            by_cases h6 : 6 ≤ i
            · have hp0 : ¬ 0 < Po := fun h => hC ⟨h6, rfl, h⟩
              have t6 : (6 : Int) ≤ (i : Int) := by omega
              have tp : ¬ (0 : Int) < (Po : Int) := by omega
              have tp' := decide_eq_false tp
              clear hC
              go_wp2_with fail
              go_quiet (fail)
              go_wp2_with fail
              go_ret
              exact ⟨rfl, ((HK3.out.alloc _).drewN _).below⟩
            · have H6 := Lib.hid h6
              clear hC h6
              go_upto_region 24 with (fail)
              have t6 : ¬ (6 : Int) ≤ (i : Int) := by have := H6.out; omega
              have t6' := decide_eq_false t6
              go_wp2_with fail
              go_quiet (fail)
              go_wp2_with fail
              go_ret
              exact ⟨rfl, ((HK3.out.alloc _).drewN _).below⟩
      · have tx : ¬ (i : Int) < 8 := by omega
        have tx' := decide_eq_false tx
        clear hmm
        by_cases hin : i < n
        case neg =>
          have ty : ¬ (i : Int) < (n : Int) := by omega
          have ty' := decide_eq_false ty
          go_wp2_with fail
          refine (pasv_calls wr X2 hl2 (HL.out.kept0 HK.out).m (HL.out.kept0 HK.out).e).mono ?_
          intro en w3 hpp
          obtain ⟨hen, hk3⟩ := hpp
          rw [HLAW.out] at hen
          have HK3 := Lib.hid (HK.out.trans' hk3)
          clear hk3
          by_cases hC : 6 ≤ i ∧ Fi = true ∧ 0 < Po
          · rw [if_pos hC, show adR (some ⟨(U 0 : Int), (U 1 : Int), (U 2 : Int), (U 3 : Int), (Po : Int)⟩) = .tuple #[.agg #[.int .i64 (U 0 : Int), .int .i64 (U 1 : Int), .int .i64 (U 2 : Int), .int .i64 (U 3 : Int), .int .i64 (Po : Int)], .bool true] from rfl] at hen
            subst hen
            obtain ⟨h6, rfl, hp0⟩ := hC
            have t6 : (6 : Int) ≤ (i : Int) := by omega
            have tp : (0 : Int) < (Po : Int) := by omega
            obtain ⟨ad, x0, hAd, hc0, hx0, hxu0⟩ := HA.out 0 (by omega)
            obtain ⟨ad', x3, hAd', hc3, hx3, hxu3⟩ := HA.out 3 (by omega)
            subst hAd
            injection hAd' with hAd'
            subst hAd'
            have d0 := (HK3.out.alloc (.cells #[.int .i64 (U 0 : Int), .int .i64 (U 1 : Int), .int .i64 (U 2 : Int), .int .i64 (U 3 : Int), .int .i64 (Po : Int)] 29)).cell hc0 (fun q => q)
            have d3 := (HK3.out.alloc (.cells #[.int .i64 (U 0 : Int), .int .i64 (U 1 : Int), .int .i64 (U 2 : Int), .int .i64 (U 3 : Int), .int .i64 (Po : Int)] 29)).cell hc3 (fun q => q)
            have b0 := and1023 x0 hx0
            have b3 := and1023 x3 hx3
            rw [hxu0] at b0
            rw [hxu3] at b3
            have u0 := HU.out 0
            have u3 := HU.out 3
            have d0' := d0
            rw [add_zero_] at d0'
            have d3' := d3
            rw [show ad.add 3 = (⟨ad.block, ad.off + 3, none⟩ : Addr) by simp [Addr.add]] at d3'
            have tn0 : (0 : Int) < (n : Int) := by omega
            have tn3 : (3 : Int) < (n : Int) := by omega
            clear hxu0 hxu3 hc0 hc3
            go_wp2_with fail
            go_quiet (fail)
            go_wp2_with fail
            go_ret
            exact ⟨rfl, ((HK3.out.alloc _).drewN _).below⟩
          · rw [if_neg hC, show adR none = .tuple #[.agg #[.int .i64 0, .int .i64 0, .int .i64 0, .int .i64 0, .int .i64 0], .bool false] from rfl] at hen
            subst hen
            cases Fi with
            | false =>
              clear hC
              go_wp2_with fail
              go_quiet (fail)
              go_wp2_with fail
              go_ret
              exact ⟨rfl, ((HK3.out.alloc _).drewN _).below⟩
            | true =>
              by_cases h6 : 6 ≤ i
              · have hp0 : ¬ 0 < Po := fun h => hC ⟨h6, rfl, h⟩
                have t6 : (6 : Int) ≤ (i : Int) := by omega
                have tp : ¬ (0 : Int) < (Po : Int) := by omega
                have tp' := decide_eq_false tp
                clear hC
                go_wp2_with fail
                go_quiet (fail)
                go_wp2_with fail
                go_ret
                exact ⟨rfl, ((HK3.out.alloc _).drewN _).below⟩
              · have H6 := Lib.hid h6
                clear hC h6
                go_upto_region 24 with (fail)
                have t6 : ¬ (6 : Int) ≤ (i : Int) := by have := H6.out; omega
                have t6' := decide_eq_false t6
                go_wp2_with fail
                go_quiet (fail)
                go_wp2_with fail
                go_ret
                exact ⟨rfl, ((HK3.out.alloc _).drewN _).below⟩
        case pos =>
          have ty : (i : Int) < (n : Int) := by omega
          go_wp2_with fail
          refine (pasv_calls wr X2 hl2 (HL.out.kept0 HK.out).m (HL.out.kept0 HK.out).e).mono ?_
          intro en w3 hpp
          obtain ⟨hen, hk3⟩ := hpp
          rw [HLAW.out] at hen
          have HK3 := Lib.hid (HK.out.trans' hk3)
          clear hk3
          by_cases hC : 6 ≤ i ∧ Fi = true ∧ 0 < Po
          · rw [if_pos hC, show adR (some ⟨(U 0 : Int), (U 1 : Int), (U 2 : Int), (U 3 : Int), (Po : Int)⟩) = .tuple #[.agg #[.int .i64 (U 0 : Int), .int .i64 (U 1 : Int), .int .i64 (U 2 : Int), .int .i64 (U 3 : Int), .int .i64 (Po : Int)], .bool true] from rfl] at hen
            subst hen
            obtain ⟨h6, rfl, hp0⟩ := hC
            have t6 : (6 : Int) ≤ (i : Int) := by omega
            have tp : (0 : Int) < (Po : Int) := by omega
            obtain ⟨ad, x0, hAd, hc0, hx0, hxu0⟩ := HA.out 0 (by omega)
            obtain ⟨ad', x3, hAd', hc3, hx3, hxu3⟩ := HA.out 3 (by omega)
            subst hAd
            injection hAd' with hAd'
            subst hAd'
            have d0 := (HK3.out.alloc (.cells #[.int .i64 (U 0 : Int), .int .i64 (U 1 : Int), .int .i64 (U 2 : Int), .int .i64 (U 3 : Int), .int .i64 (Po : Int)] 29)).cell hc0 (fun q => q)
            have d3 := (HK3.out.alloc (.cells #[.int .i64 (U 0 : Int), .int .i64 (U 1 : Int), .int .i64 (U 2 : Int), .int .i64 (U 3 : Int), .int .i64 (Po : Int)] 29)).cell hc3 (fun q => q)
            have b0 := and1023 x0 hx0
            have b3 := and1023 x3 hx3
            rw [hxu0] at b0
            rw [hxu3] at b3
            have u0 := HU.out 0
            have u3 := HU.out 3
            have d0' := d0
            rw [add_zero_] at d0'
            have d3' := d3
            rw [show ad.add 3 = (⟨ad.block, ad.off + 3, none⟩ : Addr) by simp [Addr.add]] at d3'
            have tn0 : (0 : Int) < (n : Int) := by omega
            have tn3 : (3 : Int) < (n : Int) := by omega
            clear hxu0 hxu3 hc0 hc3
            go_wp2_with fail
            go_quiet (fail)
            go_wp2_with fail
            go_ret
            exact ⟨rfl, ((HK3.out.alloc _).drewN _).below⟩
          · rw [if_neg hC, show adR none = .tuple #[.agg #[.int .i64 0, .int .i64 0, .int .i64 0, .int .i64 0, .int .i64 0], .bool false] from rfl] at hen
            subst hen
            cases Fi with
            | false =>
              clear hC
              go_wp2_with fail
              go_quiet (fail)
              go_wp2_with fail
              go_ret
              exact ⟨rfl, ((HK3.out.alloc _).drewN _).below⟩
            | true =>
              by_cases h6 : 6 ≤ i
              · have hp0 : ¬ 0 < Po := fun h => hC ⟨h6, rfl, h⟩
                have t6 : (6 : Int) ≤ (i : Int) := by omega
                have tp : ¬ (0 : Int) < (Po : Int) := by omega
                have tp' := decide_eq_false tp
                clear hC
                go_wp2_with fail
                go_quiet (fail)
                go_wp2_with fail
                go_ret
                exact ⟨rfl, ((HK3.out.alloc _).drewN _).below⟩
              · have H6 := Lib.hid h6
                clear hC h6
                go_upto_region 24 with (fail)
                have t6 : ¬ (6 : Int) ≤ (i : Int) := by have := H6.out; omega
                have t6' := decide_eq_false t6
                go_wp2_with fail
                go_quiet (fail)
                go_wp2_with fail
                go_ret
                exact ⟨rfl, ((HK3.out.alloc _).drewN _).below⟩
def u16U (zs : List Int) (i : Nat) : Nat := ((zs.getD i 0) % 1024).toNat
def u8Z (zs : List Int) (i : Nat) : Nat := ((zs.getD i 0) % 4).toNat
theorem addrSix_walk (W : World) (a0 : Option Addr) (len0 cap0 : Nat) (z0 : List Int) (a1 : Option Addr) (len1 cap1 : Nat) (z1 : List Int) (w0 : IsRow .u16 W a0 len0 cap0 z0) (y0 : len0 * 2 ≤ 140737488351232) (w1 : IsRow .u8 W a1 len1 cap1 z1) (y1 : len1 * 1 ≤ 140737488351232) (hL : laidMetH Tryd.prog Rows.addrSixRow.laid W) (hsh : W.ShapedOpen Tryd.prog) :
    Calls Tryd.prog 3 #[.slice a0 len0 cap0, .slice a1 len1 cap1] W fun en w' => en = .returned (.bool true) ∧ Below W.heap.size W w' := by
  obtain ⟨r0, c0, l0, f0⟩ := w0.reads
  obtain ⟨r1, c1, l1, f1⟩ := w1.reads
  refine six_walk W a0 a1 len0 cap0 len1 cap1 (u16U (z0.take len0)) (u8Z (z1.take len1)) c0 c1 (by omega) (by omega) (fun i => by unfold u16U; omega) (fun i => by unfold u8Z; omega) (fun i hi => ?_) (fun i hi => ?_) (fun i hi => ?_) (LdT.of hL hsh)
  · obtain ⟨ad, u, e, hu, hc⟩ := r0.at_ hi
    rw [List.getElem?_map, List.getElem?_eq_getElem (by omega), Option.map_some] at hu
    injection hu with hu
    have hwf := f0 _ (List.getElem_mem (show i < (z0.take len0).length by omega))
    simp only [Lit.wf, Bool.and_eq_true, decide_eq_true_eq] at hwf
    have g0 : 0 ≤ (z0.take len0)[i] := hwf.1
    have g1 : (z0.take len0)[i] ≤ 65535 := hwf.2
    refine ⟨ad, ((z0.take len0)[i]).toNat, e, ?_, by omega, ?_⟩
    · rw [hc, ← hu, Int.toNat_of_nonneg g0]
    · unfold u16U
      rw [List.getD_eq_getElem?_getD, List.getElem?_eq_getElem (show i < (z0.take len0).length by omega)]
      simp only [Option.getD_some]
      omega
  · obtain ⟨ad, u, e, hu, hc⟩ := r1.at_ hi
    rw [List.getElem?_map, List.getElem?_eq_getElem (by omega), Option.map_some] at hu
    injection hu with hu
    have hwf := f1 _ (List.getElem_mem (show i < (z1.take len1).length by omega))
    simp only [Lit.wf, Bool.and_eq_true, decide_eq_true_eq] at hwf
    have g0 : 0 ≤ (z1.take len1)[i] := hwf.1
    have g1 : (z1.take len1)[i] ≤ 255 := hwf.2
    refine ⟨ad, ((z1.take len1)[i]).toNat, e, ?_, by omega, ?_⟩
    · rw [hc, ← hu, Int.toNat_of_nonneg g0]
    · unfold u8Z
      rw [List.getD_eq_getElem?_getD, List.getElem?_eq_getElem (show i < (z1.take len1).length by omega)]
      simp only [Option.getD_some]
      omega
  · unfold u8Z
    rw [List.getD_eq_getElem?_getD, List.getElem?_eq_none (by omega)]
    rfl
end Go.Proofs.YtlbipnfnimekfaaDoor
