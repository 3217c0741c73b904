/- The walk of FrameStays. -/
import Derived.Test.YtccggeliajbfaaaFrame3
import Derived.Test.YtccggeliajbfaaaRowW
set_option linter.unusedVariables false
set_option linter.unusedSimpArgs false
namespace Go.Proofs.Ytccggeliajbfaaa
open Go.RowKit

def plainOf (l : List UInt8) : List UInt8 := l.filter fun c => c ≠ 13 ∧ c ≠ 10
theorem plainOf_snoc (l : List UInt8) (c : UInt8) : plainOf (l ++ [c]) = plainOf l ++ (if c ≠ 13 ∧ c ≠ 10 then [c] else []) := by
  unfold plainOf
  rw [List.filter_append]
  by_cases h : c ≠ 13 ∧ c ≠ 10 <;> simp [List.filter_cons, h]
theorem plainOf_le (l : List UInt8) : (plainOf l).length ≤ l.length := List.length_filter_le _ _
theorem putF_plain (M : Int) : ∀ (a l : List UInt8), (∀ c ∈ a, c ≠ 13 ∧ c ≠ 10) → ((l.length + a.length : Nat) : Int) ≤ M → putF M a l false 0 = ([], l ++ a, false, 0)
  | [], l, _, _ => by simp [putF]
  | c :: a, l, h, hM => by
    have hc := h c (by simp)
    simp only [List.length_cons] at hM
    have ih := putF_plain M a (l ++ [c]) (fun d hd => h d (by simp [hd])) (by simp only [List.length_append, List.length_cons, List.length_nil]; omega)
    unfold putF
    simp only [ne_eq, not_true_eq_false, if_false, Bool.false_eq_true, false_and, hc.2, or_self, hc.1]
    rw [if_neg (by omega), ih]
    simp

def StaysR (w0 : World) (a : List UInt8) (F : Nat → Prop) (g n gk : Nat) (va vi : Value) (wr : World) : Prop :=
  ∃ k : Nat, k ≤ n ∧ gk = n - k ∧ vi = .int .i64 (k : Int) ∧ Fr wr F g [] false 250 0 ∧ Row wr 5 (fun b => w0.heap.size ≤ b) va (b8s (plainOf (a.take k))) ∧
    (∀ b, F b → w0.heap.size ≤ b ∧ ¬ OB va b) ∧ Kept w0 wr NoB

set_option maxHeartbeats 4000000 in
set_option maxRecDepth 100000 in
theorem stays_calls (w : World) (A : Option Addr) (n c : Nat) (a : List UInt8) (m : Nat) (B : Option Addr) (n' c' : Nat) (b : List UInt8) (ha : Reads w (fun k => k < w.heap.size) A n (b8s a)) (hc : n ≤ c) (hcm : c ≤ 9223372036854775807)
    (hm : m ≤ 255) (hb : Reads w (fun k => k < w.heap.size) B n' (b8s b)) (hc' : n' ≤ c') (hcm' : c' ≤ 9223372036854775807) :
    Calls Try.prog 5 #[.slice A n c, .int .u8 (m : Int), .slice B n' c'] w fun en w' => en = .returned (.bool true) ∧ Kept w w' NoB := by
  have kc := fun (w : World) (C : Array Value) (n c : Nat) => Lib.run_convert_bytes_const (P := Try.prog) w 29 5 C n c Try.underlying29 Try.underlying5
  have kb := fun (W : World) (s : ByteArray) => Lib.run_convert_string_bytes (P := Try.prog) W 9 29 5 s Try.underlying9 Try.underlying29 Try.underlying5
  have HA := Lib.hid ha
  have HB := Lib.hid hb
  clear ha hb
  go_enter Try.func5, Try.ntmps5
  go_wp2_with fail
  refine (shown_calls _).mono ?_
  rintro en w1 ⟨rfl, hk1⟩
  go_wp2_with fail
  refine (new_calls _ _).mono ?_
  rintro en w2 ⟨g, F, rfl, hf, hF, hk2⟩
  rw [show max (250 : Int) 0 = 250 from rfl] at hf
  have hkp2 := hk1.trans' hk2
  go_wp2_with fail
  have hr2 := (HA.out.kept0 hkp2).alloc (.cells #[] 5)
  refine (short_calls _ _ _ _ _ _ hr2 hc hcm).mono ?_
  rintro en wx ⟨n1, rfl, hr3, hn1, hn1', rfl⟩
  obtain ⟨a', ha'⟩ : ∃ a', a.take 200 = a' := ⟨_, rfl⟩
  rw [ha'] at hr3
  have hal : a'.length = n1 := by have := hr3.1; rwa [b8s_length] at this
  have hw : Reads w (fun k => k < w.heap.size) A n1 (b8s a') := by
    have hla : a.length = n := by have := HA.out.1; rwa [b8s_length] at this
    have hn1n : n1 ≤ n := by rw [← hal, ← ha', List.length_take]; omega
    have h1 := HA.out.take hn1n
    rw [b8s_take] at h1
    have : a.take n1 = a' := by
      rw [← hal, ← ha', List.length_take]
      rcases Nat.le_total 200 a.length with h | h
      · rw [Nat.min_eq_left h]
      · rw [Nat.min_eq_right h, List.take_of_length_le (Nat.le_refl _), List.take_of_length_le h]
    rwa [this] at h1
  have HL := Lib.hid hal
  have HR := Lib.hid hw
  clear hal hr3 ha' hr2 hw
  go_wp2_with fail
  go_loopg [9, 10] n1 (fun gk v9 v10 wr => StaysR w a' F g n1 gk v9 v10 wr)
  case atStart =>
    refine ⟨0, Nat.zero_le _, rfl, rfl, hf.alloc _, Row.made0 _ _ _ hkp2.size, ?_, hkp2.alloc _⟩
    intro b h
    have h1 := hf.2 b h
    refine ⟨Nat.le_trans hk1.size (hF b h), fun hb => ?_⟩
    have h2 : w2.heap.size = b := by simpa [OB, Value.ownBlock] using hb
    omega
  case round =>
    obtain ⟨k, hk, hgk, rfl, hfr, hva, hsep, hkp⟩ := hrel
    have HG := Lib.hid hgk
    have HS := Lib.hid hsep
    clear hgk hsep
    rcases Nat.lt_or_ge k n1 with hlt | hge
    · obtain ⟨ad, u, hA, hu, hcell⟩ := (HR.out.kept0 hkp).at_ hlt
      subst hA
      have hkl : k < a'.length := by rw [HL.out]; exact hlt
      rw [b8s_at a' k hkl] at hu
      injection hu with hu
      subst hu
      obtain ⟨cb, hcb⟩ : ∃ cb : Nat, a'[k].toNat = cb := ⟨_, rfl⟩
      have HC : Hid (∀ x : Nat, x < 256 → (a'[k] = UInt8.ofNat x ↔ cb = x)) := by
        intro x hx
        rw [← hcb]
        constructor
        · intro h; rw [h]; simp; omega
        · intro h; rw [← h]; simp
      have HCB := Lib.hid hcb
      rw [hcb] at hcell
      clear hcb
      by_cases h13 : cb = 13
      · have b13 : ((cb : Int) == 13) = true := by simp [h13]
        have b13' : ((cb : Int) != 13) = false := by simp [h13]
        have EC : Hid (a'[k] = 13) := (HC.out 13 (by omega)).2 h13
        clear h13
        go_wp2
        go_roundg (n1 - (k + 1))
        case measure => have := HG.out; omega
        case rel => exact ⟨k + 1, by omega, rfl, by go_num, hfr, by rw [List.take_succ_eq_append_getElem hkl, plainOf_snoc, if_neg (by rw [EC.out]; decide), List.append_nil]; exact hva, HS.out, hkp⟩
      · have b13 : ((cb : Int) == 13) = false := by simp; omega
        have b13' : ((cb : Int) != 13) = true := by simp; omega
        have E13 : Hid (¬ a'[k] = 13) := fun h => h13 ((HC.out 13 (by omega)).1 h)
        clear h13
        by_cases h10 : cb = 10
        · have b10 : ((cb : Int) == 10) = true := by simp [h10]
          have b10' : ((cb : Int) != 10) = false := by simp [h10]
          have EC : Hid (a'[k] = 10) := (HC.out 10 (by omega)).2 h10
          clear h10
          go_wp2
          go_roundg (n1 - (k + 1))
          case measure => have := HG.out; omega
          case rel => exact ⟨k + 1, by omega, rfl, by go_num, hfr, by rw [List.take_succ_eq_append_getElem hkl, plainOf_snoc, if_neg (by rw [EC.out]; decide), List.append_nil]; exact hva, HS.out, hkp⟩
        · have b10 : ((cb : Int) == 10) = false := by simp; omega
          have b10' : ((cb : Int) != 10) = true := by simp; omega
          have E10 : Hid (¬ a'[k] = 10) := fun h => h10 ((HC.out 10 (by omega)).1 h)
          clear h10
          have hpl := plainOf_le (a'.take k)
          rw [List.length_take] at hpl
          go_wp2_with (at_builtin; refine wpList_app1 (W := wr) rfl _ _ 29 5 (.int .u8 0) 1 rfl Try.underlying29 info_u8 rfl (by decide) (fun b => w.heap.size ≤ b) u9 (b8s (plainOf (a'.take k))) (.int .u8 (cb : Int)) rfl rfl rfl hva (fun b hb => Nat.le_trans hkp.size hb) (by rw [b8s_length]; omega) ?_; intro v1 w3 hown hk3 hob)
          go_roundg (n1 - (k + 1))
          case measure => have := HG.out; omega
          case rel =>
            refine ⟨k + 1, by omega, rfl, by go_num, hfr.kept hk3 fun b hb => (HS.out b hb).2, ?_, ?_, hkp.trans hk3 fun b hb => .inr (hva.2 b hb)⟩
            · rw [List.take_succ_eq_append_getElem hkl, plainOf_snoc, if_pos ⟨E13.out, E10.out⟩, b8s_append]
              have : b8s [a'[k]] = [.int .u8 (cb : Int)] := by rw [← HCB.out]; rfl
              rw [this]
              exact hown
            · intro b hb
              have h1 := HS.out b hb
              refine ⟨h1.1, fun h => (hob b h).elim h1.2 fun h2 => ?_⟩
              have := hfr.2 b hb
              omega
    · obtain rfl : k = n1 := by omega
      have hta : a'.take k = a' := List.take_of_length_le (by rw [HL.out]; exact Nat.le_refl _)
      rw [hta] at hva
      obtain ⟨L, hL⟩ : ∃ L, plainOf a' = L := ⟨_, rfl⟩
      have hLn : L.length ≤ 200 := by rw [← hL]; have := plainOf_le a'; have := HL.out; omega
      have hp1 : putF 250 L [] false 0 = ([], L, false, 0) := by
        have := putF_plain 250 L [] (by rw [← hL]; intro c hc; simpa [plainOf] using (List.mem_filter.1 hc).2) (by simp; omega)
        simpa using this
      rw [hL] at hva
      have HP := Lib.hid hp1
      clear hta hL hp1
      obtain ⟨A2, c2, hv2, hc2, hr2⟩ := hva.readsO (b8s_length _)
      subst hv2
      go_wp2_with fail
      refine (put_any hfr (hr2.mono fun b _ hb hF => (HS.out b hF).2 hb) (by simp; omega) HP.out).mono ?_
      rintro en w3 ⟨v3, F3, rfl, hv3, hf3, hF3, hk3⟩
      have hkp3 := hkp.trans hk3 fun b hb => .inr (HS.out b hb).1
      have hF3' : ∀ b, F3 b → w.heap.size ≤ b := fun b hb => (hF3 b hb).1.elim (fun h => (HS.out b h).1) (Nat.le_trans hkp.size)
      have HF3 := Lib.hid hF3'
      clear hF3 hF3' hk3 hkp hfr hva hr2
      go_wp2_with fail
      refine (rest_calls _ _ _ _ _ _ _ hf3 (by omega)).mono ?_
      rintro en wx ⟨rfl, rfl⟩
      rw [show restF L false = (L.length : Int) from rfl]
      go_wp2_with fail
      refine (error_calls _ _ _ _ _ _ _ hf3).mono ?_
      rintro en wx ⟨rfl, rfl⟩
      have hmod : (m : Int) % 3 = 0 ∨ (m : Int) % 3 = 1 ∨ (m : Int) % 3 = 2 := by omega
      rcases hmod with hmod | hmod | hmod
      · go_wp2_with fail
        have hC : Kept w3 (Lib.bytesWorld (w3.alloc (.cells #[.string ⟨#[10]⟩, .string ⟨#[13, 120]⟩, .string ⟨#[13, 13]⟩] 9)) 5 ⟨#[10]⟩) NoB := ((Kept.refl w3 NoB).alloc _).bytesW _ _
        have hrB : Reads (Lib.bytesWorld (w3.alloc (.cells #[.string ⟨#[10]⟩, .string ⟨#[13, 120]⟩, .string ⟨#[13, 13]⟩] 9)) 5 ⟨#[10]⟩) (fun b => b = w3.heap.size + 1) (some ⟨w3.heap.size + 1, 0, none⟩) 1 (b8s [10]) := by
          have := Reads.bytesW (w3.alloc (.cells #[.string ⟨#[10]⟩, .string ⟨#[13, 120]⟩, .string ⟨#[13, 13]⟩] 9)) 5 ⟨#[10]⟩
          rw [World.size_alloc] at this
          exact this
        have hf4 := hf3.kept0 hC
        refine (put_any (ls := []) (l' := []) (cr' := false) (e' := 60) hf4 (hrB.mono fun b _ hb hF => absurd (hf3.2 b hF) (by omega)) (by omega) (by simp [putF])).mono ?_
        rintro en w5 ⟨v5, F5, rfl, hv5, hf5, hF5, hk5⟩
        obtain ⟨A5, c5, rfl, _, _⟩ := hv5.readsN (n := 0) rfl
        have hkp5 := (hkp3.trans' hC).trans hk5 fun b hb => .inr (HF3.out b hb)
        have hF5' : ∀ b, F5 b → w.heap.size ≤ b := fun b hb => (hF5 b hb).1.elim (fun h => HF3.out b h) (fun h => Nat.le_trans (hkp3.trans' hC).size h)
        have HF5 := Lib.hid hF5'
        have hrb5 := ((HB.out.kept0 (hkp3.trans' hC)).kept hk5 fun b _ hb hF => absurd (HF3.out b hF) (by omega))
        clear hF5 hF5' hC hrB hf4 hf3 hk5 hkp3 hv5
        go_wp2_with fail
        refine (short_calls _ _ _ _ _ _ hrb5 hc' hcm').mono ?_
        rintro en wx ⟨n6, rfl, hr6, _, hn6, rfl⟩
        go_wp2_with fail
        refine (put_any (ls := []) (l' := []) (cr' := false) (e' := 60) hf5 (hr6.mono fun b _ hb hF => absurd (HF5.out b hF) (by omega)) (by simp; omega) (putF_err _ _ _ (by decide))).mono ?_
        rintro en w7 ⟨v7, F7, rfl, hv7, hf7, hF7, hk7⟩
        obtain ⟨A7, c7, rfl, _, _⟩ := hv7.readsN (n := 0) rfl
        have hkp7 := hkp5.trans hk7 fun b hb => .inr (HF5.out b hb)
        clear hr6 hrb5 hv7 hk7 hF7
        go_wp2_with fail
        refine (rest_calls _ _ _ _ _ _ _ hf7 (by simp)).mono ?_
        rintro en wx ⟨rfl, rfl⟩
        go_wp2_with fail
        refine (error_calls _ _ _ _ _ _ _ hf7).mono ?_
        rintro en wx ⟨rfl, rfl⟩
        go_wp2_with fail
        go_ret
        exact ⟨rfl, hkp7⟩
      · go_wp2_with fail
        have hC : Kept w3 (Lib.bytesWorld (w3.alloc (.cells #[.string ⟨#[10]⟩, .string ⟨#[13, 120]⟩, .string ⟨#[13, 13]⟩] 9)) 5 ⟨#[13, 120]⟩) NoB := ((Kept.refl w3 NoB).alloc _).bytesW _ _
        have hrB : Reads (Lib.bytesWorld (w3.alloc (.cells #[.string ⟨#[10]⟩, .string ⟨#[13, 120]⟩, .string ⟨#[13, 13]⟩] 9)) 5 ⟨#[13, 120]⟩) (fun b => b = w3.heap.size + 1) (some ⟨w3.heap.size + 1, 0, none⟩) 2 (b8s [13, 120]) := by
          have := Reads.bytesW (w3.alloc (.cells #[.string ⟨#[10]⟩, .string ⟨#[13, 120]⟩, .string ⟨#[13, 13]⟩] 9)) 5 ⟨#[13, 120]⟩
          rw [World.size_alloc] at this
          exact this
        have hf4 := hf3.kept0 hC
        refine (put_any (ls := []) (l' := []) (cr' := false) (e' := 60) hf4 (hrB.mono fun b _ hb hF => absurd (hf3.2 b hF) (by omega)) (by omega) (by simp [putF])).mono ?_
        rintro en w5 ⟨v5, F5, rfl, hv5, hf5, hF5, hk5⟩
        obtain ⟨A5, c5, rfl, _, _⟩ := hv5.readsN (n := 0) rfl
        have hkp5 := (hkp3.trans' hC).trans hk5 fun b hb => .inr (HF3.out b hb)
        have hF5' : ∀ b, F5 b → w.heap.size ≤ b := fun b hb => (hF5 b hb).1.elim (fun h => HF3.out b h) (fun h => Nat.le_trans (hkp3.trans' hC).size h)
        have HF5 := Lib.hid hF5'
        have hrb5 := ((HB.out.kept0 (hkp3.trans' hC)).kept hk5 fun b _ hb hF => absurd (HF3.out b hF) (by omega))
        clear hF5 hF5' hC hrB hf4 hf3 hk5 hkp3 hv5
        go_wp2_with fail
        refine (short_calls _ _ _ _ _ _ hrb5 hc' hcm').mono ?_
        rintro en wx ⟨n6, rfl, hr6, _, hn6, rfl⟩
        go_wp2_with fail
        refine (put_any (ls := []) (l' := []) (cr' := false) (e' := 60) hf5 (hr6.mono fun b _ hb hF => absurd (HF5.out b hF) (by omega)) (by simp; omega) (putF_err _ _ _ (by decide))).mono ?_
        rintro en w7 ⟨v7, F7, rfl, hv7, hf7, hF7, hk7⟩
        obtain ⟨A7, c7, rfl, _, _⟩ := hv7.readsN (n := 0) rfl
        have hkp7 := hkp5.trans hk7 fun b hb => .inr (HF5.out b hb)
        clear hr6 hrb5 hv7 hk7 hF7
        go_wp2_with fail
        refine (rest_calls _ _ _ _ _ _ _ hf7 (by simp)).mono ?_
        rintro en wx ⟨rfl, rfl⟩
        go_wp2_with fail
        refine (error_calls _ _ _ _ _ _ _ hf7).mono ?_
        rintro en wx ⟨rfl, rfl⟩
        go_wp2_with fail
        go_ret
        exact ⟨rfl, hkp7⟩
      · go_wp2_with fail
        have hC : Kept w3 (Lib.bytesWorld (w3.alloc (.cells #[.string ⟨#[10]⟩, .string ⟨#[13, 120]⟩, .string ⟨#[13, 13]⟩] 9)) 5 ⟨#[13, 13]⟩) NoB := ((Kept.refl w3 NoB).alloc _).bytesW _ _
        have hrB : Reads (Lib.bytesWorld (w3.alloc (.cells #[.string ⟨#[10]⟩, .string ⟨#[13, 120]⟩, .string ⟨#[13, 13]⟩] 9)) 5 ⟨#[13, 13]⟩) (fun b => b = w3.heap.size + 1) (some ⟨w3.heap.size + 1, 0, none⟩) 2 (b8s [13, 13]) := by
          have := Reads.bytesW (w3.alloc (.cells #[.string ⟨#[10]⟩, .string ⟨#[13, 120]⟩, .string ⟨#[13, 13]⟩] 9)) 5 ⟨#[13, 13]⟩
          rw [World.size_alloc] at this
          exact this
        have hf4 := hf3.kept0 hC
        refine (put_any (ls := []) (l' := []) (cr' := false) (e' := 60) hf4 (hrB.mono fun b _ hb hF => absurd (hf3.2 b hF) (by omega)) (by omega) (by simp [putF])).mono ?_
        rintro en w5 ⟨v5, F5, rfl, hv5, hf5, hF5, hk5⟩
        obtain ⟨A5, c5, rfl, _, _⟩ := hv5.readsN (n := 0) rfl
        have hkp5 := (hkp3.trans' hC).trans hk5 fun b hb => .inr (HF3.out b hb)
        have hF5' : ∀ b, F5 b → w.heap.size ≤ b := fun b hb => (hF5 b hb).1.elim (fun h => HF3.out b h) (fun h => Nat.le_trans (hkp3.trans' hC).size h)
        have HF5 := Lib.hid hF5'
        have hrb5 := ((HB.out.kept0 (hkp3.trans' hC)).kept hk5 fun b _ hb hF => absurd (HF3.out b hF) (by omega))
        clear hF5 hF5' hC hrB hf4 hf3 hk5 hkp3 hv5
        go_wp2_with fail
        refine (short_calls _ _ _ _ _ _ hrb5 hc' hcm').mono ?_
        rintro en wx ⟨n6, rfl, hr6, _, hn6, rfl⟩
        go_wp2_with fail
        refine (put_any (ls := []) (l' := []) (cr' := false) (e' := 60) hf5 (hr6.mono fun b _ hb hF => absurd (HF5.out b hF) (by omega)) (by simp; omega) (putF_err _ _ _ (by decide))).mono ?_
        rintro en w7 ⟨v7, F7, rfl, hv7, hf7, hF7, hk7⟩
        obtain ⟨A7, c7, rfl, _, _⟩ := hv7.readsN (n := 0) rfl
        have hkp7 := hkp5.trans hk7 fun b hb => .inr (HF5.out b hb)
        clear hr6 hrb5 hv7 hk7 hF7
        go_wp2_with fail
        refine (rest_calls _ _ _ _ _ _ _ hf7 (by simp)).mono ?_
        rintro en wx ⟨rfl, rfl⟩
        go_wp2_with fail
        refine (error_calls _ _ _ _ _ _ _ hf7).mono ?_
        rintro en wx ⟨rfl, rfl⟩
        go_wp2_with fail
        go_ret
        exact ⟨rfl, hkp7⟩

theorem frameStays_walk (W : World) (a0 : Option Addr) (len0 cap0 : Nat) (z0 : List Int) (a1 : Int) (a2 : Option Addr) (len2 cap2 : Nat) (z2 : List Int) (w0 : IsRow .u8 W a0 len0 cap0 z0) (_y0 : len0 * 1 ≤ 140737488351232) (w1 : (Lit.int .u8 a1).wf = true) (w2 : IsRow .u8 W a2 len2 cap2 z2) (_y2 : len2 * 1 ≤ 140737488351232) :
    Calls Try.prog 5 #[.slice a0 len0 cap0, .int .u8 a1, .slice a2 len2 cap2] W fun en w' => en = .returned (.bool true) ∧ Below W.heap.size W w' := by
  simp only [Lit.wf, Bool.and_eq_true, decide_eq_true_eq] at w1
  have h1 : 0 ≤ a1 ∧ a1 ≤ 255 := w1
  obtain ⟨m, rfl⟩ := Int.eq_ofNat_of_zero_le h1.1
  exact (stays_calls W a0 len0 cap0 _ m a2 len2 cap2 _ w0.bytes_.2.1 w0.bytes_.2.2 w0.cap_le (by omega) w2.bytes_.2.1 w2.bytes_.2.2 w2.cap_le).mono fun _ _ ⟨he, hk⟩ => ⟨he, hk.below⟩
end Go.Proofs.Ytccggeliajbfaaa
