/- Letters as bytes: what the program reads. -/
import Derived.Test.YtlmomdpkolnbcaaDoorHexW
import Derived.Shelf.Small.Strs
import Derived.Lib.FrozenHead
import Derived.MapKept
set_option linter.unusedVariables false
set_option linter.unusedSimpArgs false
namespace Go.Proofs.YtlmomdpkolnbcaaDoor
open Go.RowKit Go.Shelf

theorem strB_beq (x y : List UInt8) : (strB x == strB y) = decide (x = y) := by
  by_cases h : x = y
  · subst h
    rw [decide_eq_true rfl]
    exact (Go.MapKept.bytes_beq _ _).2 rfl
  · rw [decide_eq_false h]
    cases hh : (strB x == strB y) with
    | false => rfl
    | true =>
      exact absurd (strB_inj ((Go.MapKept.bytes_beq _ _).1 hh)) h
def hexD (c : UInt8) : Option Nat := if 48 ≤ c.toNat ∧ c.toNat ≤ 57 then some (c.toNat - 48) else if 97 ≤ c.toNat ∧ c.toNat ≤ 102 then some (c.toNat - 87) else none
def hexI (c : UInt8) : Int := match hexD c with | some n => (n : Int) | none => -1
theorem hexD_lt {c : UInt8} {n : Nat} (h : hexD c = some n) : n < 16 := by
  unfold hexD at h
  split at h
  · injection h with h; omega
  · split at h
    · injection h with h; omega
    · cases h
theorem hexI_all : ∀ n < 256, Lib.indexByte hexS.data.toList (UInt8.ofNat n) = hexI (UInt8.ofNat n) := by decide +kernel
theorem hexI_at (c : UInt8) : Lib.indexByte hexS.data.toList c = hexI c := by
  have := hexI_all c.toNat c.toNat_lt
  simpa using this
theorem hexIndex_calls (x : Nat) (c : UInt8) (hx : c.toNat = x) (n : Int) (hn : hexI c = n) (w : World) :
    Calls Tryd.prog 24 #[.string hexS, .int .u8 (x : Int)] w fun e w' => e = .returned (.int .i64 n) ∧ w' = w := by
  subst hx hn
  have h := Any.strings_IndexByte shLays137 hexS (c.toNat : Int) w
  rw [show ((c.toNat : Int).toNat.toUInt8) = c by simp, hexI_at] at h
  exact h
/-- The bytes that letters stand for, two each. -/
def unH : List UInt8 → Option (List UInt8)
  | [] => some []
  | [_] => none
  | a :: b :: r => match hexD a, hexD b with | some x, some y => (unH r).map (UInt8.ofNat (x * 16 + y) :: ·) | _, _ => none
theorem unH_none {a b : UInt8} (r : List UInt8) (h : hexD a = none ∨ hexD b = none) : unH (a :: b :: r) = none := by
  rw [unH]
  rcases h with h | h
  · rw [h]
  · rw [h]
    cases hexD a <;> rfl
theorem unH_some {a b : UInt8} {x y : Nat} (r : List UInt8) (ha : hexD a = some x) (hb : hexD b = some y) : unH (a :: b :: r) = (unH r).map (UInt8.ofNat (x * 16 + y) :: ·) := by
  rw [unH, ha, hb]
theorem or4 (n v : Nat) (hn : n < 16) (hv : v < 16) : bits .or .i64 ((n : Int) * 16) (v : Int) = ((n * 16 + v : Nat) : Int) := by
  have h : ∀ n : Fin 16, ∀ v : Fin 16, bits .or .i64 ((n.val : Int) * 16) (v.val : Int) = ((n.val * 16 + v.val : Nat) : Int) := by decide +kernel
  exact h ⟨n, hn⟩ ⟨v, hv⟩
theorem info_u8z : (Tryd.prog.info? 5).map (fun i => (i.zero, i.size, i.bytes)) = some (some (.int .u8 0), 1, 1) := by kernel_rfl
/-- What is read of l0: behind so many bytes the letters l are left. -/
def UhS (w0 : World) (l0 : List UInt8) (gk : Nat) (v0 v4 : Value) (wr : World) : Prop :=
  ∃ l acc, gk = l.length ∧ v0 = .string (strB l) ∧ l.length ≤ l0.length ∧ acc.length + l.length ≤ l0.length ∧ Row wr 5 (fun k => w0.heap.size ≤ k) v4 (b8s acc) ∧ Kept w0 wr NoB ∧ unH l0 = (unH l).map (acc ++ ·)
/-- What Unhex tells. -/
def UhP (w : World) (l0 : List UInt8) (en : Ending) (w' : World) : Prop :=
  ∃ A n c, en = .returned (.tuple #[.slice A n c, .bool (unH l0).isSome]) ∧ Kept w w' NoB ∧ n ≤ c ∧ c ≤ maxLen ∧ Reads w' (fun k => w.heap.size ≤ k) A n (b8s ((unH l0).getD []))
theorem UhP.none {w w' : World} {l0 : List UInt8} (k : Kept w w' NoB) (h : unH l0 = none) : UhP w l0 (.returned (.tuple #[.slice none 0 0, .bool false])) w' := ⟨Option.none, 0, 0, by rw [h]; rfl, k, Nat.le_refl _, Nat.zero_le _, by rw [h]; exact Reads.nil _ _ _⟩
theorem UhP.some {w w' : World} {l0 m : List UInt8} {A : Option Addr} {n c : Nat} (k : Kept w w' NoB) (h : unH l0 = some m) (hc : n ≤ c) (hm : c ≤ maxLen) (hr : Reads w' (fun k => w.heap.size ≤ k) A n (b8s m)) : UhP w l0 (.returned (.tuple #[.slice A n c, .bool true])) w' := ⟨A, n, c, by rw [h]; rfl, k, hc, hm, by rw [h]; exact hr⟩
set_option maxHeartbeats 8000000 in
set_option maxRecDepth 100000 in
theorem unhexAny_calls (w : World) (l0 : List UInt8) (hl0 : l0.length ≤ 1099511627776) :
    Calls Tryd.prog 13 #[.string (strB l0)] w fun en w' => UhP w l0 en w' := by
  go_enter Tryd.func13, Tryd.ntmps13
  go_wp2_with fail
  go_loopg [0, 4] l0.length (fun gk v0 v4 wr => UhS w l0 gk v0 v4 wr)
  case atStart => exact ⟨l0, [], rfl, rfl, Nat.le_refl _, by simp, Row.nil _ _ _, Kept.refl _ _, by cases unH l0 <;> simp⟩
  case round =>
    obtain ⟨l, acc, hgk, rfl, hll, hal, hrow, hkr, hun⟩ := hrel
    have HG := Lib.hid hgk
    have HKR := Lib.hid hkr
    have HUN := Lib.hid hun
    have hal' : ((b8s acc).length + 1) * 1 ≤ 140737488355328 := by rw [b8s_length]; omega
    have HALL := Lib.hid hal
    clear hgk hkr hun hal
    rcases l with _ | ⟨a, _ | ⟨b, r⟩⟩
    · have hsz : (strB []).size = 0 := rfl
      have hemp : (strB [] == (⟨#[]⟩ : ByteArray)) = true := by decide
      have hemp' : (strB [] != (⟨#[]⟩ : ByteArray)) = false := by decide
      obtain ⟨A, c, rfl, hc, hcm⟩ := hrow.shape
      have hrd := hrow.reads'
      rw [b8s_length] at hc hrd ⊢
      have HRD := Lib.hid hrd
      clear hrow hrd hal'
      go_wp2_with fail
      go_ret2
      exact UhP.some HKR.out (by rw [HUN.out]; simp [unH]) hc hcm HRD.out
    · have hsz : (strB [a]).size = 1 := rfl
      have hemp : (strB [a] == (⟨#[]⟩ : ByteArray)) = false := (strB_beq [a] []).trans (decide_eq_false (by simp))
      have hemp' : (strB [a] != (⟨#[]⟩ : ByteArray)) = true := by rw [bne, hemp]; rfl
      have HN : Hid (unH l0 = none) := by show unH l0 = none; rw [HUN.out]; rfl
      clear hal'
      go_wp2_with fail
      go_ret2
      exact UhP.none HKR.out HN.out
    · have hsz : (strB (a :: b :: r)).size = r.length + 2 := rfl
      have ha0 : ∀ h, ((strB (a :: b :: r))[0]'h) = a := fun h => strB_getI (a :: b :: r) 0 h
      have hb0 : ∀ h, ((strB (a :: b :: r))[1]'h) = b := fun h => strB_getI (a :: b :: r) 1 h
      have hcut0 : (strB (a :: b :: r)).extract 2 (r.length + 2) = strB r := by
        rw [strB_cut]
        congr 1
        simp
      obtain ⟨L, hL⟩ : ∃ L, strB (a :: b :: r) = L := ⟨_, rfl⟩
      simp only [hL] at ha0 hb0 hcut0
      rw [hL] at hsz
      obtain ⟨N, hN⟩ : ∃ N, r.length + 2 = N := ⟨_, rfl⟩
      have hN2 : 2 ≤ N := by omega
      have hNb : N ≤ 1099511627778 := by simp only [List.length_cons] at hll; omega
      rw [hN] at hsz hcut0
      have HN := Lib.hid hN
      have t1 : (1 : Int) < (N : Int) := by omega
      have t2 : (2 : Int) ≤ (N : Int) := by omega
      have hcut : L.extract 2 N = strB r := hcut0
      obtain ⟨xa, hxa⟩ : ∃ x : Nat, a.toNat = x := ⟨_, rfl⟩
      obtain ⟨xb, hxb⟩ : ∃ x : Nat, b.toNat = x := ⟨_, rfl⟩
      have z0 : (0 : Nat) < L.size := by omega
      have z1 : (1 : Nat) < L.size := by omega
      have i0 : (L[0]'z0).toNat = xa := (congrArg UInt8.toNat (ha0 z0)).trans hxa
      have i1 : (L[1]'z1).toNat = xb := (congrArg UInt8.toNat (hb0 z1)).trans hxb
      rw [hL]
      clear hcut0 hN
      cases hda : hexD a with
      | none =>
        have hia : hexI a = -1 := by unfold hexI; rw [hda]
        obtain ⟨nb, hnb⟩ : ∃ n, hexI b = n := ⟨_, rfl⟩
        have H1 := Lib.hid (fun W => hexIndex_calls xa a hxa _ hia W)
        have H2 := Lib.hid (fun W => hexIndex_calls xb b hxb _ hnb W)
        have HU : Hid (unH l0 = none) := by show unH l0 = none; rw [HUN.out, unH_none r (.inl hda)]; rfl
        clear hia hnb hda hL ha0 hb0 hxa hxb hcut hal'
        go_wp2_with fail
        go_quiet (first | exact Calls.quiet_of_same (H1.out _) | exact Calls.quiet_of_same (H2.out _))
        go_wp2_with fail
        go_ret2
        exact UhP.none (HKR.out.drewN _) HU.out
      | some x =>
        cases hdb : hexD b with
        | none =>
          have hia : hexI a = (x : Int) := by unfold hexI; rw [hda]
          have hib : hexI b = -1 := by unfold hexI; rw [hdb]
          have H1 := Lib.hid (fun W => hexIndex_calls xa a hxa _ hia W)
          have H2 := Lib.hid (fun W => hexIndex_calls xb b hxb _ hib W)
          have HU : Hid (unH l0 = none) := by show unH l0 = none; rw [HUN.out, unH_none r (.inr hdb)]; rfl
          have hx0 : ¬ ((x : Int) < 0) := by omega
          clear hia hib hda hdb hL ha0 hb0 hxa hxb hcut hal'
          go_wp2_with fail
          go_quiet (first | exact Calls.quiet_of_same (H1.out _) | exact Calls.quiet_of_same (H2.out _))
          go_wp2_with fail
          go_ret2
          exact UhP.none (HKR.out.drewN _) HU.out
        | some y =>
          have hia : hexI a = (x : Int) := by unfold hexI; rw [hda]
          have hib : hexI b = (y : Int) := by unfold hexI; rw [hdb]
          have H1 := Lib.hid (fun W => hexIndex_calls xa a hxa _ hia W)
          have H2 := Lib.hid (fun W => hexIndex_calls xb b hxb _ hib W)
          have HU : Hid (unH l0 = (unH r).map ((acc ++ [UInt8.ofNat (x * 16 + y)]) ++ ·)) := by
            show unH l0 = _
            rw [HUN.out, unH_some r hda hdb]
            cases unH r <;> simp
          have hx0 : ¬ ((x : Int) < 0) := by omega
          have hy0 : ¬ ((y : Int) < 0) := by omega
          have hx16 := hexD_lt hda
          have hy16 := hexD_lt hdb
          have hor := or4 x y hx16 hy16
          obtain ⟨v, hv⟩ : ∃ v, x * 16 + y = v := ⟨_, rfl⟩
          rw [hv] at hor HU
          have hv8 : v < 256 := by omega
          clear hia hib hda hdb hL ha0 hb0 hxa hxb hv
          obtain ⟨A, n, c, rfl⟩ := hrow.slice
          have HROW := Lib.hid hrow
          have HAL := Lib.hid hal'
          clear hrow hal'
          go_wp2_with fail
          go_quiet (first | exact Calls.quiet_of_same (H1.out _) | exact Calls.quiet_of_same (H2.out _))
          have HKD := Lib.hid (HKR.out.drewN nq)
          have HRD := Lib.hid (HROW.out.drewN nq)
          have hszd := (HKR.out.drewN nq).size
          go_wp2_with (at_builtin; refine wpList_app1 (W := wr.drewN nq) rfl _ _ 22 5 (.int .u8 0) 1 rfl Tryd.underlying22 info_u8z rfl (by decide) (fun k => w.heap.size ≤ k) (.slice A n c) (b8s acc) (.int .u8 (v : Int)) rfl rfl rfl HRD.out (fun k hk => Nat.le_trans hszd hk) HAL.out ?_; intro v1 w1 hown hkp hob)
          have HKP := Lib.hid hkp
          have HOWN := Lib.hid hown
          clear hkp hown hob
          go_wp2_with fail
          go_roundg r.length
          case measure => have := HG.out; simp only [List.length_cons] at this; omega
          case rel =>
            refine ⟨r, acc ++ [UInt8.ofNat v], rfl, rfl, ?_, ?_, ?_, ?_, HU.out⟩
            · simp only [List.length_cons] at hll; omega
            · have := HALL.out; simp only [List.length_append, List.length_cons, List.length_nil] at this ⊢; omega
            · have e : b8s (acc ++ [UInt8.ofNat v]) = b8s acc ++ [.int .u8 (v : Int)] := by simp [b8s, B8]; omega
              rw [e]
              exact HOWN.out
            · exact HKD.out.trans HKP.out fun k hk => .inr ((HRD.out.2 k hk))
end Go.Proofs.YtlmomdpkolnbcaaDoor
