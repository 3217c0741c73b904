/- B64Letters' walk. -/
import Derived.Test.YtllhnedfeballaaB64L
set_option linter.unusedVariables false
set_option linter.unusedSimpArgs false
namespace Go.Proofs.Ytllhnedfeballaa
open Go.RowKit

def isLet (b : UInt8) : Bool := (65 ≤ b.toNat && b.toNat ≤ 90) || (97 ≤ b.toNat && b.toNat ≤ 122) || (48 ≤ b.toNat && b.toNat ≤ 57) || b.toNat == 43 || b.toNat == 47
theorem isLet_al : ∀ i < 64, isLet (al i) = true := by decide
theorem put64_shape : ∀ (n : Nat) (l : List UInt8), l.length ≤ n → ∃ ls, put64 l = ls ++ List.replicate ((3 - l.length % 3) % 3) 61 ∧ ∀ b ∈ ls, isLet b = true
  | 0, l, h => by
    obtain rfl : l = [] := List.eq_nil_of_length_eq_zero (by omega)
    exact ⟨[], by rw [put64_nil]; rfl, by simp⟩
  | n + 1, l, h => by
    have hal : ∀ x, isLet (al (x % 64)) = true := fun x => isLet_al _ (Nat.mod_lt _ (by decide))
    match l, h with
    | [], _ => exact ⟨[], by rw [put64_nil]; rfl, by simp⟩
    | [a], _ =>
      refine ⟨[al (head3 [a] / 2 ^ (6 * (3 - 0)) % 64), al (head3 [a] / 2 ^ (6 * (3 - 1)) % 64)], ?_, ?_⟩
      · rw [put64_step (by simp)]
        show _ ++ put64 [] = _
        rw [put64_nil]
        rfl
      · intro b hb
        simp only [List.mem_cons, List.not_mem_nil, or_false] at hb
        rcases hb with rfl | rfl <;> exact hal _
    | [a, b], _ =>
      refine ⟨[al (head3 [a, b] / 2 ^ (6 * (3 - 0)) % 64), al (head3 [a, b] / 2 ^ (6 * (3 - 1)) % 64), al (head3 [a, b] / 2 ^ (6 * (3 - 2)) % 64)], ?_, ?_⟩
      · rw [put64_step (by simp)]
        show _ ++ put64 [] = _
        rw [put64_nil]
        rfl
      · intro x hb
        simp only [List.mem_cons, List.not_mem_nil, or_false] at hb
        rcases hb with rfl | rfl | rfl <;> exact hal _
    | a :: b :: c :: r, h =>
      obtain ⟨ls, h1, h2⟩ := put64_shape n r (by simp at h; omega)
      have e1 : min (a :: b :: c :: r).length 3 = 3 := by simp
      refine ⟨quad (head3 (a :: b :: c :: r)) 3 ++ ls, ?_, ?_⟩
      · rw [put64_step (by simp), e1]
        show _ ++ put64 r = _
        rw [h1, List.append_assoc]
        congr 3
        simp only [List.length_cons]
        omega
      · intro x hx
        rcases List.mem_append.1 hx with hx | hx
        · simp only [quad, List.mem_cons, List.not_mem_nil, or_false] at hx
          rcases hx with rfl | rfl | rfl | rfl <;> (rw [ch_in (by decide)]; exact hal _)
        · exact h2 x hx

theorem put64_len : ∀ (n : Nat) (l : List UInt8), l.length ≤ n → (put64 l).length ≤ 4 * l.length
  | 0, l, h => by
    obtain rfl : l = [] := List.eq_nil_of_length_eq_zero (by omega)
    rw [put64_nil]; simp
  | n + 1, l, h => by
    by_cases he : l = []
    · subst he; rw [put64_nil]; simp
    · have hp : 0 < l.length := List.length_pos_iff.2 he
      rw [put64_step he, List.length_append]
      have := put64_len n (l.drop (min l.length 3)) (by rw [List.length_drop]; omega)
      rw [List.length_drop] at this
      simp only [quad, List.length_cons, List.length_nil]
      omega

/-- Fills among the first i letters. -/
def LetR (w0 : World) (s : ByteArray) (p gk : Nat) (v5 v6 : Value) (wr : World) : Prop :=
  ∃ i : Nat, i ≤ s.size ∧ gk = s.size - i ∧ v6 = .int .i64 i ∧ v5 = .int .i64 ((i - p : Nat) : Int) ∧ Kept w0 wr NoB

set_option maxHeartbeats 2000000 in
set_option maxRecDepth 100000 in
theorem letters_calls (w : World) (A : Option Addr) (n c : Nat) (l : List UInt8) (hr : Reads w (fun k => k < w.heap.size) A n (b8s l)) (hc : n ≤ c) :
    Calls Try.prog 4 #[.slice A n c] w fun en w' => en = .returned (.bool true) ∧ Kept w w' NoB := by
  go_enter Try.func4, Try.ntmps4
  go_wp2_with fail
  refine (shown_calls _).mono ?_
  rintro en w1 ⟨rfl, hk1⟩
  go_wp2_with fail
  refine (short_calls w1 _ A n c l (hr.kept0 hk1) hc).mono ?_
  rintro en w2 ⟨B, m, d, rfl, rfl, hmd, hm, hrB⟩
  obtain ⟨la, hla⟩ : ∃ la, l.take 600 = la := ⟨_, rfl⟩
  rw [hla] at hrB
  have hlm : la.length = m := by have := hrB.1; rwa [b8s_length] at this
  obtain ⟨ls, hsh, hls⟩ := put64_shape _ la (Nat.le_refl _)
  rw [hlm] at hsh
  obtain ⟨f, hf⟩ : ∃ f, (3 - m % 3) % 3 = f := ⟨_, rfl⟩
  rw [hf] at hsh
  obtain ⟨s, hs⟩ : ∃ s, strB (put64 la) = s := ⟨_, rfl⟩
  have hsz : s.size = ls.length + f := by rw [← hs, strB_size, hsh]; simp
  have hlet : ∀ i (h : i < s.size), i < ls.length → isLet s[i] = true := by
    intro i h hi
    subst hs
    have : (strB (put64 la))[i] = ls[i] := by
      show (put64 la).toArray[i] = _
      simp [hsh, hi]
    rw [this]
    exact hls _ (List.getElem_mem _)
  have hfil : ∀ i (h : i < s.size), ls.length ≤ i → s[i] = 61 := by
    intro i h hi
    subst hs
    show (put64 la).toArray[i] = _
    simp [hsh, hi]
  obtain ⟨p, hp⟩ : ∃ p, ls.length = p := ⟨_, rfl⟩
  rw [hp] at hsz hlet hfil
  have hp3 : f ≤ 2 := by omega
  have HS := Lib.hid hs
  have HSZ := Lib.hid hsz
  have HLET := Lib.hid hlet
  have HFIL := Lib.hid hfil
  have HK1 := Lib.hid hk1
  have HR := Lib.hid hrB
  have HF := Lib.hid hf
  have hssz : s.size ≤ 10000 := by
    have h1 := put64_len _ la (Nat.le_refl _)
    rw [← HS.out, strB_size]
    omega
  clear hs hsz hlet hfil hk1 hr hrB hla hlm hsh hls hp hf
  go_wp2_with fail
  refine (put64_any (w1 := w2) HR.out (by omega) hmd HS.out).mono ?_
  rintro en w3 ⟨rfl, hk3⟩
  have HK3 := Lib.hid (HK1.out.trans' hk3)
  clear hk3
  go_wp2_with fail
  go_loopg [5, 6] s.size (fun gk v5 v6 wr => LetR w s p gk v5 v6 wr)
  case atStart => exact ⟨0, Nat.zero_le _, rfl, rfl, by simp, HK3.out⟩
  case round =>
    obtain ⟨i, hi, hgk, rfl, rfl, hkr⟩ := hrel
    have HG := Lib.hid hgk
    have HKR := Lib.hid hkr
    clear hgk hkr
    rcases Nat.lt_or_ge i s.size with hlt | hge
    · rcases Nat.lt_or_ge i p with hip | hip
      · have hl := HLET.out i hlt hip
        have hfz : i - p = 0 := by omega
        rw [hfz]
        have hfz' : i + 1 - p = 0 := by omega
        simp only [isLet, Bool.or_eq_true, Bool.and_eq_true, decide_eq_true_eq, beq_iff_eq] at hl
        have hor : (65 ≤ s[i].toNat ∧ s[i].toNat ≤ 90) ∨ (97 ≤ s[i].toNat ∧ s[i].toNat ≤ 122) ∨ (48 ≤ s[i].toNat ∧ s[i].toNat ≤ 57) ∨ s[i].toNat = 43 ∨ s[i].toNat = 47 := by omega
        have H1 : Hid (LetR w s p (s.size - (i + 1)) (.int .i64 0) (.int .i64 ((i : Int) + 1)) wr) := ⟨i + 1, hlt, rfl, by simp, by rw [hfz']; rfl, HKR.out⟩
        clear hl hfz hfz'
        rcases hor with hx | hx | hx | hx | hx
        · have t65 : (65 : Int) ≤ (s[i].toNat : Int) := by omega
          have t97 : ¬ ((97 : Int) ≤ (s[i].toNat : Int)) := by omega
          have t48 : (48 : Int) ≤ (s[i].toNat : Int) := by omega
          have t90 : (s[i].toNat : Int) ≤ 90 := by omega
          have t122 : (s[i].toNat : Int) ≤ 122 := by omega
          have t57 : ¬ ((s[i].toNat : Int) ≤ 57) := by omega
          have e43 : ((s[i].toNat : Int) == 43) = false := by simp; omega
          have n43 : ((s[i].toNat : Int) != 43) = true := by simp; omega
          have e47 : ((s[i].toNat : Int) == 47) = false := by simp; omega
          have n47 : ((s[i].toNat : Int) != 47) = true := by simp; omega
          have e61 : ((s[i].toNat : Int) == 61) = false := by simp; omega
          have n61 : ((s[i].toNat : Int) != 61) = true := by simp; omega
          clear hx
          go_wp2_with fail
          go_roundg (s.size - (i + 1))
          case measure => have := HG.out; omega
          case rel => exact H1.out
        · have t65 : (65 : Int) ≤ (s[i].toNat : Int) := by omega
          have t97 : (97 : Int) ≤ (s[i].toNat : Int) := by omega
          have t48 : (48 : Int) ≤ (s[i].toNat : Int) := by omega
          have t90 : ¬ ((s[i].toNat : Int) ≤ 90) := by omega
          have t122 : (s[i].toNat : Int) ≤ 122 := by omega
          have t57 : ¬ ((s[i].toNat : Int) ≤ 57) := by omega
          have e43 : ((s[i].toNat : Int) == 43) = false := by simp; omega
          have n43 : ((s[i].toNat : Int) != 43) = true := by simp; omega
          have e47 : ((s[i].toNat : Int) == 47) = false := by simp; omega
          have n47 : ((s[i].toNat : Int) != 47) = true := by simp; omega
          have e61 : ((s[i].toNat : Int) == 61) = false := by simp; omega
          have n61 : ((s[i].toNat : Int) != 61) = true := by simp; omega
          clear hx
          go_wp2_with fail
          go_roundg (s.size - (i + 1))
          case measure => have := HG.out; omega
          case rel => exact H1.out
        · have t65 : ¬ ((65 : Int) ≤ (s[i].toNat : Int)) := by omega
          have t97 : ¬ ((97 : Int) ≤ (s[i].toNat : Int)) := by omega
          have t48 : (48 : Int) ≤ (s[i].toNat : Int) := by omega
          have t90 : (s[i].toNat : Int) ≤ 90 := by omega
          have t122 : (s[i].toNat : Int) ≤ 122 := by omega
          have t57 : (s[i].toNat : Int) ≤ 57 := by omega
          have e43 : ((s[i].toNat : Int) == 43) = false := by simp; omega
          have n43 : ((s[i].toNat : Int) != 43) = true := by simp; omega
          have e47 : ((s[i].toNat : Int) == 47) = false := by simp; omega
          have n47 : ((s[i].toNat : Int) != 47) = true := by simp; omega
          have e61 : ((s[i].toNat : Int) == 61) = false := by simp; omega
          have n61 : ((s[i].toNat : Int) != 61) = true := by simp; omega
          clear hx
          go_wp2_with fail
          go_roundg (s.size - (i + 1))
          case measure => have := HG.out; omega
          case rel => exact H1.out
        · have t65 : ¬ ((65 : Int) ≤ (s[i].toNat : Int)) := by omega
          have t97 : ¬ ((97 : Int) ≤ (s[i].toNat : Int)) := by omega
          have t48 : ¬ ((48 : Int) ≤ (s[i].toNat : Int)) := by omega
          have t90 : (s[i].toNat : Int) ≤ 90 := by omega
          have t122 : (s[i].toNat : Int) ≤ 122 := by omega
          have t57 : (s[i].toNat : Int) ≤ 57 := by omega
          have e43 : ((s[i].toNat : Int) == 43) = true := by simp; omega
          have n43 : ((s[i].toNat : Int) != 43) = false := by simp; omega
          have e47 : ((s[i].toNat : Int) == 47) = false := by simp; omega
          have n47 : ((s[i].toNat : Int) != 47) = true := by simp; omega
          have e61 : ((s[i].toNat : Int) == 61) = false := by simp; omega
          have n61 : ((s[i].toNat : Int) != 61) = true := by simp; omega
          clear hx
          go_wp2_with fail
          go_roundg (s.size - (i + 1))
          case measure => have := HG.out; omega
          case rel => exact H1.out
        · have t65 : ¬ ((65 : Int) ≤ (s[i].toNat : Int)) := by omega
          have t97 : ¬ ((97 : Int) ≤ (s[i].toNat : Int)) := by omega
          have t48 : ¬ ((48 : Int) ≤ (s[i].toNat : Int)) := by omega
          have t90 : (s[i].toNat : Int) ≤ 90 := by omega
          have t122 : (s[i].toNat : Int) ≤ 122 := by omega
          have t57 : (s[i].toNat : Int) ≤ 57 := by omega
          have e43 : ((s[i].toNat : Int) == 43) = false := by simp; omega
          have n43 : ((s[i].toNat : Int) != 43) = true := by simp; omega
          have e47 : ((s[i].toNat : Int) == 47) = true := by simp; omega
          have n47 : ((s[i].toNat : Int) != 47) = false := by simp; omega
          have e61 : ((s[i].toNat : Int) == 61) = false := by simp; omega
          have n61 : ((s[i].toNat : Int) != 61) = true := by simp; omega
          clear hx
          go_wp2_with fail
          go_roundg (s.size - (i + 1))
          case measure => have := HG.out; omega
          case rel => exact H1.out
      · have hl := HFIL.out i hlt hip
        have hx : s[i].toNat = 61 := by rw [hl]; rfl
        obtain ⟨e, he⟩ : ∃ e, i - p = e := ⟨_, rfl⟩
        rw [he]
        have H1 : Hid (LetR w s p (s.size - (i + 1)) (.int .i64 ((e : Int) + 1)) (.int .i64 ((i : Int) + 1)) wr) := ⟨i + 1, hlt, rfl, by simp, by rw [show i + 1 - p = e + 1 by omega]; simp, HKR.out⟩
        have he2 : e ≤ 2 := by have := HSZ.out; omega
        clear hl he
        have t65 : ¬ ((65 : Int) ≤ (s[i].toNat : Int)) := by omega
        have t97 : ¬ ((97 : Int) ≤ (s[i].toNat : Int)) := by omega
        have t48 : (48 : Int) ≤ (s[i].toNat : Int) := by omega
        have t90 : (s[i].toNat : Int) ≤ 90 := by omega
        have t122 : (s[i].toNat : Int) ≤ 122 := by omega
        have t57 : ¬ ((s[i].toNat : Int) ≤ 57) := by omega
        have e43 : ((s[i].toNat : Int) == 43) = false := by simp; omega
        have n43 : ((s[i].toNat : Int) != 43) = true := by simp; omega
        have e47 : ((s[i].toNat : Int) == 47) = false := by simp; omega
        have n47 : ((s[i].toNat : Int) != 47) = true := by simp; omega
        have e61 : ((s[i].toNat : Int) == 61) = true := by simp; omega
        have n61 : ((s[i].toNat : Int) != 61) = false := by simp; omega
        clear hx
        go_wp2_with fail
        go_roundg (s.size - (i + 1))
        case measure => have := HG.out; omega
        case rel => exact H1.out
    · obtain rfl : i = s.size := by omega
      have hsp : s.size - p = f := by have := HSZ.out; omega
      rw [hsp]
      have hff : ((f : Int) == -((m : Int) % 3) % 3) = true := by
        have := HF.out
        rw [beq_iff_eq]
        omega
      clear hsp
      go_wp2_with fail
      go_ret
      exact ⟨rfl, HKR.out⟩

theorem b64Letters_walk (W : World) (a0 : Option Addr) (len0 cap0 : Nat) (z0 : List Int) (w0 : IsRow .u8 W a0 len0 cap0 z0) (_y0 : len0 * 1 ≤ 140737488351232) :
    Calls Try.prog 4 #[.slice a0 len0 cap0] W fun en w' => en = .returned (.bool true) ∧ Below W.heap.size W w' :=
  (letters_calls W a0 len0 cap0 _ w0.bytes_.2.1 w0.bytes_.2.2).mono fun _ _ ⟨he, hk⟩ => ⟨he, hk.below⟩
end Go.Proofs.Ytllhnedfeballaa
