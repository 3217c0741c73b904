/- The reference's letters of bytes: Hex. -/
import Derived.Test.YthnebhnlkjkcmaaDoorHexW5
set_option linter.unusedVariables false
set_option linter.unusedSimpArgs false
namespace Go.Proofs.YthnebhnlkjkcmaaDoor
open Go.RowKit Go.Shelf

theorem hexS_cut : ∀ a : Fin 16, hexS.extract a.val (a.val + 1) = strB [hexC a.val] := by decide +kernel
theorem hexS_cut' (a : Nat) (h : a < 16) : hexS.extract a (a + 1) = strB [hexC a] := hexS_cut ⟨a, h⟩
def RhS (w0 : World) (n : Nat) (l : List UInt8) (gk : Nat) (v3 v4 : Value) (wr : World) : Prop :=
  ∃ i, i ≤ n ∧ gk = n - i ∧ v4 = .int .i64 (i : Int) ∧ v3 = .string (strB (hexL (l.take i))) ∧ Kept w0 wr NoB
set_option maxHeartbeats 2000000 in
set_option maxRecDepth 100000 in
theorem refHex_calls (w : World) (S : Nat → Prop) (A : Option Addr) (n c : Nat) (l : List UInt8) (hA : Reads w S A n (b8s l)) (hn : n ≤ 1099511627776) :
    Calls Tryd.prog 34 #[.slice A n c] w fun en w' => en = .returned (.string (strB (hexL l))) ∧ Kept w w' NoB := by
  have hln : l.length = n := by have := hA.1; rwa [b8s_length] at this
  have HLN := Lib.hid hln
  have HA := Lib.hid hA
  clear hln hA
  go_enter Tryd.func34, Tryd.ntmps34
  go_wp2_with fail
  go_loopg [4, 5] n (fun gk v3 v4 wr => RhS w n l gk v3 v4 wr)
  case atStart => exact ⟨0, Nat.zero_le _, rfl, rfl, rfl, Kept.refl _ _⟩
  case round =>
    obtain ⟨i, hi, hgk, rfl, rfl, hk⟩ := hrel
    have HG := Lib.hid hgk
    have HK := Lib.hid hk
    clear hk
    have hlen := hexL_len (l.take i)
    rw [List.length_take] at hlen
    have hlen' : (hexL (l.take i)).length ≤ 2 * n := by rw [hlen]; omega
    clear hgk hlen
    rcases Nat.lt_or_ge i n with hlt | hge
    · have hil : i < l.length := by rw [HLN.out]; exact hlt
      obtain ⟨ad, u, hAd, hu, hcell⟩ := (HA.out.kept0 HK.out).at_ hlt
      subst hAd
      rw [b8s_at l i hil] at hu
      injection hu with hu
      subst hu
      have hs := hexL_snoc l hil
      obtain ⟨x, hx⟩ : ∃ x : Nat, l[i].toNat = x := ⟨_, rfl⟩
      have hx256 : x < 256 := by rw [← hx]; exact l[i].toNat_lt
      rw [hx] at hcell hs
      have k1 := hexS_cut' (x / 16) (by omega)
      have k2 := hexS_cut' (x % 16) (by omega)
      obtain ⟨P, hP⟩ : ∃ P, hexL (l.take i) = P := ⟨_, rfl⟩
      obtain ⟨y1, hy1⟩ : ∃ y, hexC (x / 16) = y := ⟨_, rfl⟩
      obtain ⟨y2, hy2⟩ : ∃ y, hexC (x % 16) = y := ⟨_, rfl⟩
      rw [hP, hy1, hy2] at hs
      rw [hP] at hlen' ⊢
      rw [hy1] at k1
      rw [hy2] at k2
      have e1 := strB_app P [y1]
      have e2 := strB_app (P ++ [y1]) [y2]
      have hl1 : (P ++ [y1]).length ≤ 2 * n + 1 := by rw [List.length_append]; simp only [List.length_cons, List.length_nil]; omega
      have HS := Lib.hid hs
      have t16 : (x : Int) / 16 < 16 := by omega
      have t16' : (x : Int) % 16 < 16 := by omega
      clear hx hs hP hy1 hy2
      go_wp2_with fail
      go_quiet (fail)
      go_wp2_with fail
      go_roundg (n - (i + 1))
      case measure => have := HG.out; omega
      case rel => exact ⟨i + 1, hlt, rfl, by go_num, by rw [HS.out]; simp, HK.out.drewN _⟩
    · obtain rfl : i = n := by omega
      have ht : l.take i = l := List.take_of_length_le (by have := HLN.out; omega)
      rw [ht]
      go_wp2_with fail
      go_ret
      exact ⟨rfl, HK.out⟩
end Go.Proofs.YthnebhnlkjkcmaaDoor
