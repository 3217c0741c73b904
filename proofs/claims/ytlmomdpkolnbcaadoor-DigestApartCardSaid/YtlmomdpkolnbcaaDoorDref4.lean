/- The reference's letters of bytes: Hex, half, Unhex. -/
import Derived.Test.YtlmomdpkolnbcaaDoorHexP
set_option linter.unusedVariables false
set_option linter.unusedSimpArgs false
namespace Go.Proofs.YtlmomdpkolnbcaaDoor
open Go.RowKit Go.Shelf

theorem hexS_cut : ∀ a : Fin 16, hexS.extract a.val (a.val + 1) = strB [hexC a.val] := by decide +kernel
theorem hexS_cut' (a : Nat) (h : a < 16) : hexS.extract a (a + 1) = strB [hexC a] := hexS_cut ⟨a, h⟩
def RhS (w0 : World) (n : Nat) (l : List UInt8) (gk : Nat) (v3 v4 : Value) (wr : World) : Prop :=
  ∃ i, i ≤ n ∧ gk = n - i ∧ v4 = .int .i64 (i : Int) ∧ v3 = .string (strB (hexL (l.take i))) ∧ Kept w0 wr NoB
set_option maxHeartbeats 2000000 in
set_option maxRecDepth 100000 in
theorem refHex_calls (w : World) (S : Nat → Prop) (A : Option Addr) (n c : Nat) (l : List UInt8) (hA : Reads w S A n (b8s l)) (hn : n ≤ 1099511627776) :
    Calls Tryd.prog 15 #[.slice A n c] w fun en w' => en = .returned (.string (strB (hexL l))) ∧ Kept w w' NoB := by
  have hln : l.length = n := by have := hA.1; rwa [b8s_length] at this
  have HLN := Lib.hid hln
  have HA := Lib.hid hA
  clear hln hA
  go_enter Tryd.func15, Tryd.ntmps15
  go_wp2_with fail
  go_loopg [4, 5] n (fun gk v3 v4 wr => RhS w n l gk v3 v4 wr)
  case atStart => exact ⟨0, Nat.zero_le _, rfl, rfl, rfl, Kept.refl _ _⟩
  case round =>
    obtain ⟨i, hi, hgk, rfl, rfl, hk⟩ := hrel
    have HG := Lib.hid hgk
    have HK := Lib.hid hk
    clear hk
    have hlen := hexL_len (l.take i)
    rw [List.length_take] at hlen
    have hlen' : (hexL (l.take i)).length ≤ 2 * n := by rw [hlen]; omega
    clear hgk hlen
    rcases Nat.lt_or_ge i n with hlt | hge
    · have hil : i < l.length := by rw [HLN.out]; exact hlt
      obtain ⟨ad, u, hAd, hu, hcell⟩ := (HA.out.kept0 HK.out).at_ hlt
      subst hAd
      rw [b8s_at l i hil] at hu
      injection hu with hu
      subst hu
      have hs := hexL_snoc l hil
      obtain ⟨x, hx⟩ : ∃ x : Nat, l[i].toNat = x := ⟨_, rfl⟩
      have hx256 : x < 256 := by rw [← hx]; exact l[i].toNat_lt
      rw [hx] at hcell hs
      have k1 := hexS_cut' (x / 16) (by omega)
      have k2 := hexS_cut' (x % 16) (by omega)
      obtain ⟨P, hP⟩ : ∃ P, hexL (l.take i) = P := ⟨_, rfl⟩
      obtain ⟨y1, hy1⟩ : ∃ y, hexC (x / 16) = y := ⟨_, rfl⟩
      obtain ⟨y2, hy2⟩ : ∃ y, hexC (x % 16) = y := ⟨_, rfl⟩
      rw [hP, hy1, hy2] at hs
      rw [hP] at hlen' ⊢
      rw [hy1] at k1
      rw [hy2] at k2
      have e1 := strB_app P [y1]
      have e2 := strB_app (P ++ [y1]) [y2]
      have hl1 : (P ++ [y1]).length ≤ 2 * n + 1 := by rw [List.length_append]; simp only [List.length_cons, List.length_nil]; omega
      have HS := Lib.hid hs
      have t16 : (x : Int) / 16 < 16 := by omega
      have t16' : (x : Int) % 16 < 16 := by omega
      clear hx hs hP hy1 hy2
      go_wp2_with fail
      go_quiet (fail)
      go_wp2_with fail
      go_roundg (n - (i + 1))
      case measure => have := HG.out; omega
      case rel => exact ⟨i + 1, hlt, rfl, by go_num, by rw [HS.out]; simp, HK.out.drewN _⟩
    · obtain rfl : i = n := by omega
      have ht : l.take i = l := List.take_of_length_le (by have := HLN.out; omega)
      rw [ht]
      go_wp2_with fail
      go_ret
      exact ⟨rfl, HK.out⟩
theorem half_calls (w : World) (c : UInt8) (x : Nat) (hx : c.toNat = x) (m : Int) (hm : hexI c = m) :
    Calls Tryd.prog 25 #[.int .u8 (x : Int)] w fun en w' => en = .returned (.int .i64 m) ∧ w = w' := by
  have hlt := c.toNat_lt
  rw [hx] at hlt
  have hd : hexD c = if 48 ≤ x ∧ x ≤ 57 then some (x - 48) else if 97 ≤ x ∧ x ≤ 102 then some (x - 87) else none := by rw [← hx]; rfl
  unfold hexI at hm
  rw [hd] at hm
  clear hx hd
  by_cases h1 : 48 ≤ x
  · have t1 : (48 : Int) ≤ (x : Int) := by omega
    by_cases h2 : x ≤ 57
    · have t2 : (x : Int) ≤ 57 := by omega
      rw [if_pos ⟨h1, h2⟩] at hm
      simp only at hm
      obtain ⟨y, hy⟩ : ∃ y : Nat, x - 48 = y := ⟨_, rfl⟩
      rw [hy] at hm
      have e : (x : Int) - 48 = (y : Int) := by omega
      have hy9 : y ≤ 9 := by omega
      subst hm
      clear hy
      go_enter Tryd.func25, Tryd.ntmps25
      go_wp2_with fail
      go_ret
      exact ⟨rfl, rfl⟩
    · have t2 : ¬ (x : Int) ≤ 57 := by omega
      have t2' := decide_eq_false t2
      rw [if_neg (fun h => h2 h.2)] at hm
      by_cases h3 : 97 ≤ x
      · have t3 : (97 : Int) ≤ (x : Int) := by omega
        by_cases h4 : x ≤ 102
        · have t4 : (x : Int) ≤ 102 := by omega
          rw [if_pos ⟨h3, h4⟩] at hm
          simp only at hm
          have hm' : m = (x : Int) - 97 + 10 := by omega
          subst hm'
          clear hm
          go_enter Tryd.func25, Tryd.ntmps25
          go_wp2_with fail
          go_ret
          exact ⟨rfl, rfl⟩
        · have t4 : ¬ (x : Int) ≤ 102 := by omega
          have t4' := decide_eq_false t4
          rw [if_neg (fun h => h4 h.2)] at hm
          simp only at hm
          subst hm
          go_enter Tryd.func25, Tryd.ntmps25
          go_wp2_with fail
          go_ret
          exact ⟨rfl, rfl⟩
      · have t3 : ¬ (97 : Int) ≤ (x : Int) := by omega
        have t3' := decide_eq_false t3
        rw [if_neg (fun h => h3 h.1)] at hm
        simp only at hm
        subst hm
        go_enter Tryd.func25, Tryd.ntmps25
        go_wp2_with fail
        go_ret
        exact ⟨rfl, rfl⟩
  · have t1 : ¬ (48 : Int) ≤ (x : Int) := by omega
    have t1' := decide_eq_false t1
    have t3 : ¬ (97 : Int) ≤ (x : Int) := by omega
    have t3' := decide_eq_false t3
    rw [if_neg (fun h => h1 h.1), if_neg (by omega)] at hm
    simp only at hm
    subst hm
    go_enter Tryd.func25, Tryd.ntmps25
    go_wp2_with fail
    go_ret
    exact ⟨rfl, rfl⟩
def RuS (w0 : World) (l0 : List UInt8) (gk : Nat) (v3 v4 : Value) (wr : World) : Prop :=
  ∃ l acc i, gk = l.length ∧ i + l.length = l0.length ∧ v4 = .int .i64 ((i : Nat) : Int) ∧ l0.drop i = l ∧ l.length % 2 = 0 ∧ acc.length + l.length ≤ l0.length ∧ Row wr 5 (fun k => w0.heap.size ≤ k) v3 (b8s acc) ∧ Kept w0 wr NoB ∧ unH l0 = (unH l).map (acc ++ ·)
theorem unH_oddN {l : List UInt8} (h : l.length % 2 = 1) : unH l = none := by
  cases hu : unH l with
  | none => rfl
  | some m => have := unH_len hu; omega
theorem drop_two {l0 l : List UInt8} {i : Nat} {a b : UInt8} (h : l0.drop i = a :: b :: l) : ∃ (h1 : i < l0.length) (h2 : i + 1 < l0.length), l0[i] = a ∧ l0[i + 1] = b ∧ l0.drop (i + 2) = l := by
  have hl := congrArg List.length h
  simp only [List.length_drop, List.length_cons] at hl
  have e0 : l0[i]? = some a := by have := congrArg (·[0]?) h; simpa using this
  have e1 : l0[i + 1]? = some b := by have := congrArg (·[1]?) h; simpa using this
  refine ⟨by omega, by omega, ?_, ?_, ?_⟩
  · rw [List.getElem?_eq_getElem (by omega)] at e0; exact Option.some.inj e0
  · rw [List.getElem?_eq_getElem (by omega)] at e1; exact Option.some.inj e1
  · rw [← List.drop_drop, h]; rfl
set_option maxHeartbeats 8000000 in
set_option maxRecDepth 100000 in
theorem refUnhex_calls (w : World) (l0 : List UInt8) (hl0 : l0.length ≤ 1099511627776) :
    Calls Tryd.prog 14 #[.string (strB l0)] w fun en w' => UhP w l0 en w' := by
  obtain ⟨B, hB⟩ : ∃ B, strB l0 = B := ⟨_, rfl⟩
  have hsz : B.size = l0.length := by rw [← hB, strB_size]
  have hget : ∀ j, (h : j < l0.length) → ∀ h' : j < B.size, (B[j]'h') = l0[j] := fun j h h' => by subst hB; rw [strB_getI]
  have HGET := Lib.hid hget
  obtain ⟨n, hn⟩ : ∃ n, l0.length = n := ⟨_, rfl⟩
  rw [hn] at hsz hl0
  have HN := Lib.hid hn
  rw [hB]
  clear hget hn hB
  rcases (show n % 2 = 1 ∨ n % 2 = 0 by omega) with hodd | hev
  · have hnone := unH_oddN (l := l0) (by rw [HN.out]; exact hodd)
    have t1 : ((n : Int) % 2 == 0) = false := by rw [beq_eq_false_iff_ne]; omega
    have t1' : ((n : Int) % 2 != 0) = true := by rw [bne, t1]; rfl
    have HNO := Lib.hid hnone
    clear hnone
    go_enter Tryd.func14, Tryd.ntmps14
    go_wp2_with fail
    go_ret2
    exact UhP.none (Kept.refl _ _) HNO.out
  · have t1 : ((n : Int) % 2 == 0) = true := by rw [beq_iff_eq]; omega
    have t1' : ((n : Int) % 2 != 0) = false := by rw [bne, t1]; rfl
    go_enter Tryd.func14, Tryd.ntmps14
    go_wp2_with fail
    go_loopg [4, 5] n (fun gk v3 v4 wr => RuS w l0 gk v3 v4 wr)
    case atStart => exact ⟨l0, [], 0, HN.out.symm, by omega, rfl, by simp, by rw [HN.out]; exact hev, by simp, Row.made0 _ _ _ (Nat.le_refl _), (Kept.refl _ _).alloc _, by cases unH l0 <;> simp⟩
    case round =>
      obtain ⟨l, acc, i, hgk, hil, rfl, hdr, hle, hal, hrow, hkr, hun⟩ := hrel
      have HG := Lib.hid hgk
      have HKR := Lib.hid hkr
      have HUN := Lib.hid hun
      have HALL := Lib.hid hal
      have HDR := Lib.hid hdr
      have HLE := Lib.hid hle
      rw [HN.out] at hil
      have hal' : ((b8s acc).length + 1) * 1 ≤ 140737488355328 := by rw [b8s_length, HN.out] at *; omega
      clear hgk hkr hun hal hdr
      rcases l with _ | ⟨a, _ | ⟨b, r⟩⟩
      · have ti : ¬ (i : Int) < (n : Int) := by simp at hil; omega
        obtain ⟨A, c, rfl, hc, hcm⟩ := hrow.shape
        have hrd := hrow.reads'
        rw [b8s_length] at hc hrd ⊢
        have HRD := Lib.hid hrd
        clear hrow hrd hal' hle hil
        go_wp2_with fail
        go_ret2
        exact UhP.some HKR.out (by rw [HUN.out]; simp [unH]) hc hcm HRD.out
      · exfalso
        simp at hle
      · obtain ⟨h1, h2, ea, eb, hd2⟩ := drop_two HDR.out
        have z0 : i < B.size := by rw [hsz, ← HN.out]; exact h1
        have z1 : i + 1 < B.size := by rw [hsz, ← HN.out]; exact h2
        obtain ⟨xa, hxa⟩ : ∃ x : Nat, a.toNat = x := ⟨_, rfl⟩
        obtain ⟨xb, hxb⟩ : ∃ x : Nat, b.toNat = x := ⟨_, rfl⟩
        have i0 : (B[i]'z0).toNat = xa := by rw [HGET.out i h1 z0, ea, hxa]
        have i1 : (B[i + 1]'z1).toNat = xb := by rw [HGET.out (i + 1) h2 z1, eb, hxb]
        have hin : i + 2 ≤ n := by rw [← HN.out]; omega
        have ti : (i : Int) < (n : Int) := by omega
        have ti1 : (i : Int) + 1 < (n : Int) := by omega
        have tn1 : ((i : Int) + 1).toNat = i + 1 := by omega
        have HD2 := Lib.hid hd2
        clear hd2 h1 h2 ea eb hle
        cases hda : hexD a with
        | none =>
          have hia : hexI a = -1 := by unfold hexI; rw [hda]
          obtain ⟨nb, hnb⟩ : ∃ n, hexI b = n := ⟨_, rfl⟩
          have H1 := Lib.hid (fun W => half_calls W a xa hxa _ hia)
          have H2 := Lib.hid (fun W => half_calls W b xb hxb _ hnb)
          have HU : Hid (unH l0 = none) := by show unH l0 = none; rw [HUN.out, unH_none r (.inl hda)]; rfl
          clear hia hnb hda hxa hxb hal' hil
          go_wp2_with fail
          refine (H1.out _).mono ?_
          rintro en _ ⟨rfl, rfl⟩
          go_wp2_with fail
          refine (H2.out _).mono ?_
          rintro en _ ⟨rfl, rfl⟩
          go_wp2_with fail
          go_ret2
          exact UhP.none HKR.out HU.out
        | some x =>
          cases hdb : hexD b with
          | none =>
            have hia : hexI a = (x : Int) := by unfold hexI; rw [hda]
            have hib : hexI b = -1 := by unfold hexI; rw [hdb]
            have H1 := Lib.hid (fun W => half_calls W a xa hxa _ hia)
            have H2 := Lib.hid (fun W => half_calls W b xb hxb _ hib)
            have HU : Hid (unH l0 = none) := by show unH l0 = none; rw [HUN.out, unH_none r (.inr hdb)]; rfl
            have hx0 : ¬ ((x : Int) < 0) := by omega
            clear hia hib hda hdb hxa hxb hal' hil
            go_wp2_with fail
            refine (H1.out _).mono ?_
            rintro en _ ⟨rfl, rfl⟩
            go_wp2_with fail
            refine (H2.out _).mono ?_
            rintro en _ ⟨rfl, rfl⟩
            go_wp2_with fail
            go_ret2
            exact UhP.none HKR.out HU.out
          | some y =>
            have hia : hexI a = (x : Int) := by unfold hexI; rw [hda]
            have hib : hexI b = (y : Int) := by unfold hexI; rw [hdb]
            have H1 := Lib.hid (fun W => half_calls W a xa hxa _ hia)
            have H2 := Lib.hid (fun W => half_calls W b xb hxb _ hib)
            have HU : Hid (unH l0 = (unH r).map ((acc ++ [UInt8.ofNat (x * 16 + y)]) ++ ·)) := by
              show unH l0 = _
              rw [HUN.out, unH_some r hda hdb]
              cases unH r <;> simp
            have hx0 : ¬ ((x : Int) < 0) := by omega
            have hy0 : ¬ ((y : Int) < 0) := by omega
            have hx16 := hexD_lt hda
            have hy16 := hexD_lt hdb
            obtain ⟨v, hv⟩ : ∃ v, x * 16 + y = v := ⟨_, rfl⟩
            rw [hv] at HU
            have hvi : (x : Int) * 16 + (y : Int) = (v : Int) := by omega
            have hv8 : v < 256 := by omega
            clear hia hib hda hdb hxa hxb hv
            obtain ⟨A, m, c, rfl⟩ := hrow.slice
            have HROW := Lib.hid hrow
            have HAL := Lib.hid hal'
            clear hrow hal'
            go_wp2_with fail
            refine (H1.out _).mono ?_
            rintro en _ ⟨rfl, rfl⟩
            go_wp2_with fail
            refine (H2.out _).mono ?_
            rintro en _ ⟨rfl, rfl⟩
            have hszd := HKR.out.size
            go_wp2_with (at_builtin; refine wpList_app1 (W := wr) rfl _ _ 22 5 (.int .u8 0) 1 rfl Tryd.underlying22 info_u8z rfl (by decide) (fun k => w.heap.size ≤ k) (.slice A m c) (b8s acc) (.int .u8 (v : Int)) rfl rfl rfl HROW.out (fun k hk => Nat.le_trans hszd hk) HAL.out ?_; intro v1 w1 hown hkp hob)
            have HKP := Lib.hid hkp
            have HOWN := Lib.hid hown
            clear hkp hown hob
            go_wp2_with fail
            go_roundg r.length
            case measure => have := HG.out; simp only [List.length_cons] at this; omega
            case rel =>
              refine ⟨r, acc ++ [UInt8.ofNat v], i + 2, rfl, ?_, by go_num, HD2.out, ?_, ?_, ?_, ?_, HU.out⟩
              · rw [HN.out]; simp only [List.length_cons] at hil; omega
              · have := HLE.out; simp only [List.length_cons] at this; omega
              · have := HALL.out; simp only [List.length_append, List.length_cons, List.length_nil] at this ⊢; omega
              · have e : b8s (acc ++ [UInt8.ofNat v]) = b8s acc ++ [.int .u8 (v : Int)] := by simp [b8s, B8]; omega
                rw [e]
                exact HOWN.out
              · exact HKR.out.trans HKP.out fun k hk => .inr ((HROW.out.2 k hk))
end Go.Proofs.YtlmomdpkolnbcaaDoor
