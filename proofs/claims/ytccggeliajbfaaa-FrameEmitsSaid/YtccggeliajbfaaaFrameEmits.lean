/- The walk of FrameEmits. -/
import Derived.Test.YtccggeliajbfaaaFrame3
import Derived.Test.YtccggeliajbfaaaIdx2
import Derived.Test.YtccggeliajbfaaaRowW
set_option linter.unusedVariables false
set_option linter.unusedSimpArgs false
namespace Go.Proofs.Ytccggeliajbfaaa
open Go.RowKit Go.Shelf

/-! ### Plain -/
def bareB (s : List UInt8) : Bool := s.all fun c => c != 13 && c != 10
theorem bareB_snoc (s : List UInt8) (c : UInt8) : bareB (s ++ [c]) = (bareB s && (c != 13 && c != 10)) := by simp [bareB]
theorem any_bare (s : List UInt8) : decide (0 ≤ Lib.indexAny s [13, 10]) = !bareB s := by
  induction s with
  | nil => rfl
  | cons b l ih =>
    have hge := Lib.indexAny_ge [13, 10] l
    unfold Lib.indexAny
    by_cases h1 : b = 13
    · subst h1; simp [bareB]
    · by_cases h2 : b = 10
      · subst h2; simp [bareB]
      · have hb : bareB (b :: l) = bareB l := by simp [bareB, h1, h2]
        have hc : ([13, 10] : List UInt8).contains b = false := by simp [h1, h2]
        rw [hc, hb, ← ih]
        simp only [Bool.false_eq_true, if_false]
        by_cases hm : Lib.indexAny l [13, 10] = -1
        · rw [hm]; rfl
        · rw [if_neg (by simpa using hm)]
          exact decide_eq_decide.2 (by omega)
theorem putF_bare (M : Int) : ∀ (s l : List UInt8), bareB s = true → ((l.length + s.length : Nat) : Int) ≤ M → putF M (s ++ [13, 10]) l false 0 = ([l ++ s], [], false, 0)
  | [], l, _, _ => by simp [putF]
  | c :: s, l, h, hM => by
    simp only [bareB, List.all_cons, Bool.and_eq_true, bne_iff_ne, ne_eq] at h
    obtain ⟨⟨h1, h2⟩, h3⟩ := h
    simp only [List.length_cons] at hM
    have ih := putF_bare M s (l ++ [c]) h3 (by simp only [List.length_append, List.length_cons, List.length_nil]; omega)
    simp only [List.cons_append]
    unfold putF
    simp only [ne_eq, not_true_eq_false, if_false, Bool.false_eq_true, false_and, h1, or_self, h2]
    rw [if_neg (by omega), ih]
    simp
theorem putF_bareLong (M : Int) : ∀ (s l : List UInt8), bareB s = true → (l.length : Int) ≤ M → M < ((l.length + s.length : Nat) : Int) → putF M (s ++ [13, 10]) l false 0 = ([], [], false, 61)
  | [], l, _, h1, h2 => by simp only [List.length_nil] at h2; omega
  | c :: s, l, h, hl, hM => by
    simp only [bareB, List.all_cons, Bool.and_eq_true, bne_iff_ne, ne_eq] at h
    obtain ⟨⟨h1, h2⟩, h3⟩ := h
    simp only [List.length_cons] at hM
    simp only [List.cons_append]
    unfold putF
    simp only [ne_eq, not_true_eq_false, if_false, Bool.false_eq_true, false_and, h1, or_self, h2]
    by_cases hge : M ≤ l.length
    · rw [if_pos hge]
    · rw [if_neg hge]
      exact putF_bareLong M s (l ++ [c]) h3 (by simp only [List.length_append, List.length_cons, List.length_nil]; omega) (by simp only [List.length_append, List.length_cons, List.length_nil]; omega)

/-! ### Emit -/
set_option maxRecDepth 100000 in
theorem containsEnd_calls (w : World) (L : List UInt8) (hL : L.length < 4294967281) :
    Calls Try.prog 18 #[.string (strB L), .string ⟨#[13, 10]⟩] w fun en w' => en = .returned (.bool (!bareB L)) ∧ Kept w w' NoB := by
  have h := Lib.hid (indexAny_calls w L [13, 10] (by decide) (by decide) (by decide) hL)
  have hb := any_bare L
  obtain ⟨q, hq⟩ : ∃ q, Lib.indexAny L [13, 10] = q := ⟨_, rfl⟩
  rw [hq] at h hb
  rw [← hb]
  clear hq hb
  go_enter Try.func18, Try.ntmps18
  go_wp2_with fail
  refine h.out.mono ?_
  rintro en w1 ⟨rfl, hk⟩
  go_wp2_with fail
  go_ret
  exact ⟨rfl, hk⟩
def EmitPost (w : World) (s : List UInt8) (en : Ending) (w' : World) : Prop :=
  ∃ v, en = .returned (.tuple #[v, .bool (bareB s)]) ∧ Kept w w' NoB ∧ (bareB s = false → v = .slice none 0 0) ∧
    (bareB s = true → ∃ A c, v = .slice A (s.length + 2) c ∧ Reads w' (fun k => w.heap.size ≤ k) A (s.length + 2) (b8s (s ++ [13, 10])) ∧ s.length + 2 ≤ c)
set_option maxRecDepth 100000 in
theorem emit_calls (w : World) (s : List UInt8) (hs : s.length ≤ 200) :
    Calls Try.prog 17 #[.string (strB s)] w (EmitPost w s) := by
  have kb := fun (W : World) (s : ByteArray) => Lib.run_convert_string_bytes (P := Try.prog) W 9 29 5 s Try.underlying9 Try.underlying29 Try.underlying5
  have hc := containsEnd_calls w s (by omega)
  unfold EmitPost
  cases hb : bareB s with
  | false =>
    rw [hb] at hc
    have HC := Lib.hid hc
    clear hc hb
    go_enter Try.func17, Try.ntmps17
    go_wp2_with fail
    refine HC.out.mono ?_
    rintro en w1 ⟨rfl, hk⟩
    go_wp2_with fail
    go_ret2
    exact ⟨_, rfl, hk, fun _ => rfl, by simp⟩
  | true =>
    rw [hb] at hc
    have HC := Lib.hid hc
    clear hc hb
    have hcat : strB s ++ ⟨#[13, 10]⟩ = strB (s ++ [13, 10]) := by
      apply ByteArray.ext
      simp [strB]
    have hsz : (strB (s ++ [13, 10])).size = s.length + 2 := by rw [strB_size]; simp
    go_enter Try.func17, Try.ntmps17
    go_wp2_with fail
    refine HC.out.mono ?_
    rintro en w1 ⟨rfl, hk⟩
    go_wp2_with fail
    have hrd := Reads.bytesW w1 5 (strB (s ++ [13, 10]))
    rw [hsz, strB_toList] at hrd
    go_ret2
    exact ⟨_, rfl, hk.bytesW _ _, by simp, fun _ => ⟨_, _, rfl, hrd.mono fun j _ hj => by have := hk.size; omega, grownCap_ge _ _ _ _⟩⟩

/-! ### The statement -/
def EmB (w0 : World) (s : List UInt8) (gk : Nat) (v11 v12 : Value) (wr : World) : Prop :=
  ∃ k, k ≤ s.length ∧ gk = s.length - k ∧ v11 = .bool (bareB (s.take k)) ∧ v12 = .int .i64 (k : Int) ∧ wr = w0
def EmR (w0 : World) (M g n gk : Nat) (vi : Value) (wr : World) : Prop :=
  ∃ (k : Nat) (F : Nat → Prop), k ≤ n ∧ k ≤ 10 ∧ gk = 10 - k ∧ vi = .int .i64 (k : Int) ∧ Fr wr F g [] false (M : Int) 0 ∧ (∀ b, F b → w0.heap.size ≤ b) ∧ Kept w0 wr NoB
set_option maxHeartbeats 4000000 in
set_option maxRecDepth 100000 in
theorem emits_calls (w : World) (A : Option Addr) (n c : Nat) (ls : List (List UInt8)) (M : Nat) (hr : Reads w (fun k => k < w.heap.size) A n (strs ls)) (hls : ∀ l ∈ ls, l.length ≤ 9223372036854775807) (hM : M ≤ 255) :
    Calls Try.prog 7 #[.slice A n c, .int .u8 (M : Int)] w fun en w' => en = .returned (.bool true) ∧ Kept w w' NoB := by
  have kb := fun (W : World) (s : ByteArray) => Lib.run_convert_string_bytes (P := Try.prog) W 9 29 5 s Try.underlying9 Try.underlying29 Try.underlying5
  have HR := Lib.hid hr
  have HLS := Lib.hid hls
  clear hr hls
  go_enter Try.func7, Try.ntmps7
  go_wp2_with fail
  refine (shown_calls _).mono ?_
  rintro en w1 ⟨rfl, hk1⟩
  go_wp2_with fail
  refine (new_calls _ _).mono ?_
  rintro en w2 ⟨g, F, rfl, hf, hF, hk2⟩
  have hmx : max (M : Int) 0 = (M : Int) := by omega
  rw [hmx] at hf
  go_wp2_with fail
  go_loopg [7, 8, 9, 10, 11, 12, 13, 14] 10 (fun gk v7 _ _ _ _ _ _ _ wr => EmR w M g n gk v7 wr)
  case atStart => exact ⟨0, F, Nat.zero_le _, Nat.zero_le _, rfl, rfl, hf, fun b hb => Nat.le_trans hk1.size (hF b hb), hk1.trans' hk2⟩
  case round =>
    obtain ⟨k, F, hk, hk10, hgk, rfl, hf, hF, hkp⟩ := hrel
    have HG := Lib.hid hgk
    have HF := Lib.hid hF
    clear hgk hF
    by_cases hlt : k < n ∧ k < 10
    · obtain ⟨hlt, hlt10⟩ := hlt
      have hrw := HR.out.kept0 hkp
      obtain ⟨ad, u, rfl, hu, hcell⟩ := hrw.at_ (k := k) hlt
      have hkl : k < ls.length := by
        have := hrw.1
        rw [strs_length] at this
        omega
      obtain ⟨x, hx⟩ : ∃ x, ls[k] = x := ⟨_, rfl⟩
      have hxl : x.length ≤ 9223372036854775807 := by rw [← hx]; exact HLS.out _ (List.getElem_mem hkl)
      have hue : u = .string (strB x) := by
        simp only [strs, List.getElem?_map, List.getElem?_eq_getElem hkl, Option.map_some, hx] at hu
        exact (Option.some.inj hu).symm
      subst hue
      have HU := Lib.hid hu
      clear hu hx
      go_wp2_with fail
      have hrb := Reads.bytesW wr 5 (strB x)
      rw [strB_size, strB_toList] at hrb
      refine (short_calls _ _ _ _ _ _ hrb (grownCap_ge _ _ _ _) (grownCap_le_maxLen _ _ _ _ hxl)).mono ?_
      rintro en wx ⟨m', rfl, hrs, hm1, hm2, rfl⟩
      obtain ⟨s, hs⟩ : ∃ s, x.take 200 = s := ⟨_, rfl⟩
      have hsl : s.length ≤ 200 := by rw [← hs]; simp; omega
      rw [hs] at hrs
      have hcv := fun cc => hrs.string (P := Try.prog) 29 5 9 Try.underlying29 Try.underlying5 Try.underlying9 cc
      have hkb : Kept wr (Lib.bytesWorld wr 5 (strB x)) NoB := (Kept.refl _ _).bytesW _ _
      have hf1 := hf.kept0 hkb
      have hkp1 := hkp.trans' hkb
      clear hs hrb hrs hxl hf hkp hkb hrw
      generalize Lib.bytesWorld wr 5 (strB x) = W1 at hcv hf1 hkp1
      have HF1 := Lib.hid hf1
      have HK1 := Lib.hid hkp1
      clear hf1 hkp1
      go_wp2_with fail
      refine (emit_calls _ s hsl).mono ?_
      rintro en w3 ⟨v3, rfl, hk3, hv0, hv1⟩
      clear hcv
      have HV0 := Lib.hid hv0
      have HV1 := Lib.hid hv1
      have HK3 := Lib.hid (HK1.out.trans' hk3)
      have HF3 := Lib.hid (HF1.out.kept0 hk3)
      clear hv0 hv1 hk3
      obtain ⟨bs, hbs⟩ : ∃ bs, bareB s = bs := ⟨_, rfl⟩
      rw [hbs]
      have HBS := Lib.hid hbs
      clear hbs
      go_wp2_with fail
      go_loopg [11, 12] s.length (fun gk v11 v12 wr => EmB w3 s gk v11 v12 wr)
      case atStart => exact ⟨0, Nat.zero_le _, rfl, rfl, rfl, rfl⟩
      case round =>
        obtain ⟨i, hi, hgi, rfl, rfl, rfl⟩ := hrel
        have HGI := Lib.hid hgi
        clear hgi
        rcases Nat.lt_or_ge i s.length with hil | hil
        · obtain ⟨y, hy⟩ : ∃ y, s[i] = y := ⟨_, rfl⟩
          have hg : ∀ h : i < (strB s).size, ((strB s)[i]'h) = y := fun h => by rw [← hy]; exact ix_get s i h
          have htk : s.take (i + 1) = s.take i ++ [y] := by rw [List.take_succ_eq_append_getElem hil, hy]
          have hb1 := bareB_snoc (s.take i) y
          rw [← htk] at hb1
          obtain ⟨b0, hb0⟩ : ∃ b0, bareB (s.take i) = b0 := ⟨_, rfl⟩
          rw [hb0] at hb1 ⊢
          clear htk hb0 hy
          have hcase : (b0 = false) ∨ (b0 = true ∧ y = 13) ∨ (b0 = true ∧ y = 10) ∨ (b0 = true ∧ y ≠ 13 ∧ y ≠ 10) := by
            by_cases h1 : y = 13 <;> by_cases h2 : y = 10 <;> cases b0 <;> simp [h1, h2]
          rcases hcase with rfl | ⟨rfl, rfl⟩ | ⟨rfl, rfl⟩ | ⟨rfl, h13, h10⟩
          · simp only [Bool.false_and] at hb1
            have HB1 := Lib.hid hb1
            clear hb1
            go_wp2_with fail
            go_roundg (s.length - (i + 1))
            case measure => have := HGI.out; omega
            case rel => exact ⟨i + 1, hil, rfl, by rw [HB1.out], rfl, rfl⟩
          · have HB1 := Lib.hid hb1
            clear hb1
            go_wp2_with fail
            go_roundg (s.length - (i + 1))
            case measure => have := HGI.out; omega
            case rel => exact ⟨i + 1, hil, rfl, by rw [HB1.out]; rfl, rfl, rfl⟩
          · have HB1 := Lib.hid hb1
            clear hb1
            go_wp2_with fail
            go_roundg (s.length - (i + 1))
            case measure => have := HGI.out; omega
            case rel => exact ⟨i + 1, hil, rfl, by rw [HB1.out]; rfl, rfl, rfl⟩
          · have hb2 : bareB (s.take (i + 1)) = true := by rw [hb1]; simp [h13, h10]
            have HB1 := Lib.hid hb2
            clear hb1 hb2
            have h13' : ((y.toNat : Int) == 13) = false := by
              rw [beq_eq_false_iff_ne]
              intro e
              exact h13 (UInt8.toNat_inj.1 (by show y.toNat = 13; omega))
            have h10' : ((y.toNat : Int) == 10) = false := by
              rw [beq_eq_false_iff_ne]
              intro e
              exact h10 (UInt8.toNat_inj.1 (by show y.toNat = 10; omega))
            have h13n : ((y.toNat : Int) != 13) = true := by simp only [bne, h13']; rfl
            have h10n : ((y.toNat : Int) != 10) = true := by simp only [bne, h10']; rfl
            go_wp2_with fail
            go_roundg (s.length - (i + 1))
            case measure => have := HGI.out; omega
            case rel => exact ⟨i + 1, hil, rfl, by rw [HB1.out], rfl, rfl⟩
        · have hfull : s.take i = s := List.take_of_length_le hil
          rw [hfull, HBS.out]
          obtain rfl : i = s.length := by omega
          cases bs
          · obtain rfl := HV0.out HBS.out
            go_wp2_with fail
            go_roundg (10 - (k + 1))
            case measure => have := HG.out; omega
            case rel => exact ⟨k + 1, F, hlt, hlt10, rfl, rfl, HF3.out, HF.out, HK3.out⟩
          · obtain ⟨A3, c3, rfl, hr3, hc3⟩ := HV1.out HBS.out
            have hcv := fun cc => hr3.string (P := Try.prog) 29 5 9 Try.underlying29 Try.underlying5 Try.underlying9 cc
            have hcat : strB s ++ ⟨#[13, 10]⟩ = strB (s ++ [13, 10]) := by
              apply ByteArray.ext
              simp [strB]
            have hr4 := hr3.mono (T := fun b => ¬ F b) fun b _ hb hF => absurd (HF1.out.2 b hF) (by omega)
            have HR4 := Lib.hid hr4
            clear hr3 hr4
            rcases Nat.lt_or_ge M s.length with hms | hms
            · have hp := putF_bareLong (M : Int) s [] HBS.out (by simp) (by simp; omega)
              have HP := Lib.hid hp
              clear hp
              go_wp2_with fail
              refine (put_any HF3.out HR4.out (by simp; omega) HP.out).mono ?_
              rintro en w5 ⟨v5, F5, rfl, hv5, hf5, hF5, hk5⟩
              obtain ⟨A5, c5, rfl, _, _⟩ := hv5.readsN (n := 0) rfl
              go_wp2_with fail
              refine (rest_calls _ _ _ _ _ _ _ hf5 (by simp)).mono ?_
              rintro en wx ⟨rfl, rfl⟩
              go_wp2_with fail
              go_ret
              exact ⟨rfl, HK3.out.trans hk5 fun b hb => .inr (HF.out b hb)⟩
            · have hp := putF_bare (M : Int) s [] HBS.out (by simp; omega)
              rw [List.nil_append] at hp
              have HP := Lib.hid hp
              clear hp
              go_wp2_with fail
              refine (put_any HF3.out HR4.out (by simp; omega) HP.out).mono ?_
              rintro en w5 ⟨v5, F5, rfl, hv5, hf5, hF5, hk5⟩
              obtain ⟨A5, c5, rfl, _, hrd5⟩ := hv5.readsN (n := 1) rfl
              obtain ⟨ad5, u5, rfl, hu5, hcell5⟩ := hrd5.at_ (k := 0) (by decide)
              simp [strs] at hu5
              subst hu5
              rw [add_zero_] at hcell5
              go_wp2_with fail
              refine (rest_calls _ _ _ _ _ _ _ hf5 (by simp)).mono ?_
              rintro en wx ⟨rfl, rfl⟩
              go_wp2_with fail
              go_roundg (10 - (k + 1))
              case measure => have := HG.out; omega
              case rel =>
                exact ⟨k + 1, F5, hlt, hlt10, rfl, rfl, hf5, fun b hb => (hF5 b hb).1.elim (HF.out b) fun h => Nat.le_trans HK3.out.size h, HK3.out.trans hk5 fun b hb => .inr (HF.out b hb)⟩
    · rcases Nat.lt_or_ge k n with h1 | h1
      · obtain rfl : k = 10 := by omega
        go_wp2_with fail
        go_ret
        exact ⟨rfl, hkp⟩
      · obtain rfl : k = n := by omega
        clear hlt
        go_wp2_with fail
        go_ret
        exact ⟨rfl, hkp⟩
theorem frameEmits_walk (W : World) (a0 : Option Addr) (len0 cap0 : Nat) (z0 : List ByteArray) (a1 : Int) (w0 : IsStrs W a0 len0 cap0 z0) (w1 : (Lit.int .u8 a1).wf = true) :
    Calls Try.prog 7 #[.slice a0 len0 cap0, .int .u8 a1] W fun en w' => en = .returned (.bool true) ∧ Below W.heap.size W w' := by
  obtain ⟨hr1, hc1, hl1, hs1⟩ := w0.reads
  have e : ∀ zs : List ByteArray, zs.map Value.string = strs (zs.map fun s => s.data.toList) := fun zs => by
    unfold strs
    rw [List.map_map]
    exact List.map_congr_left fun s _ => by simp [strB_data]
  have el : ∀ zs : List ByteArray, (∀ s ∈ zs, s.size ≤ maxLen) → ∀ x ∈ zs.map (fun s => s.data.toList), x.length ≤ 9223372036854775807 := fun zs h x hx => by
    obtain ⟨s, hs, rfl⟩ := List.mem_map.1 hx
    have := h s hs
    unfold maxLen at this
    rw [Array.length_toList]
    exact this
  rw [e] at hr1
  simp only [Lit.wf, Bool.and_eq_true, decide_eq_true_eq] at w1
  have h1 : 0 ≤ a1 ∧ a1 ≤ 255 := w1
  obtain ⟨M, rfl⟩ := Int.eq_ofNat_of_zero_le h1.1
  exact (emits_calls W a0 len0 cap0 _ M hr1 (el _ hs1) (by omega)).mono fun _ _ ⟨he, hk⟩ => ⟨he, hk.below⟩
end Go.Proofs.Ytccggeliajbfaaa
