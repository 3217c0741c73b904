/- Transcripts: how a text is shown, how entries are written, names: what the program computes. -/
import Derived.Test.YtammhfnolafknaaDoorLogW
set_option linter.unusedVariables false
set_option linter.unusedSimpArgs false
namespace Go.Proofs.YtammhfnolafknaaDoor
open Go.RowKit Go.Shelf Go.Lib Go.Sort

/-! ### Shown -/
def oddC (c : UInt8) : Bool := decide (c.toNat < 32 ∨ 126 < c.toNat ∨ c.toNat = 92)
def showC (c : UInt8) : List UInt8 := if oddC c then 92 :: 120 :: hex2 c else [c]
def showL (l : List UInt8) : List UInt8 := l.flatMap showC
theorem showL_snoc (l : List UInt8) {i : Nat} (h : i < l.length) : showL (l.take (i + 1)) = showL (l.take i) ++ showC l[i] := by
  unfold showL
  rw [List.take_succ_eq_append_getElem h, List.flatMap_append]
  simp
theorem showC_len (c : UInt8) : (showC c).length ≤ 4 := by
  unfold showC
  split <;> simp [hex2]
theorem showL_len (l : List UInt8) : (showL l).length ≤ 4 * l.length := by
  unfold showL
  induction l with
  | nil => simp
  | cons c l ih =>
    rw [List.flatMap_cons, List.length_append, List.length_cons]
    have := showC_len c
    omega
theorem hex_one (w : World) (c : UInt8) (s : ByteArray) (cap : Nat) (hs : s = strB [c]) :
    Calls Tryd.prog 26 #[.slice (some ⟨w.heap.size, 0, none⟩) 1 cap] (Lib.bytesWorld w 5 s) fun en w' => en = .returned (.string (strB (hex2 c))) ∧ Kept w w' NoB := by
  subst hs
  have h := Reads.bytesW w 5 (strB [c])
  have e : (strB [c]).data.toList = [c] := strB_toList _
  rw [e, strB_size] at h
  refine (hex_calls _ _ _ 1 cap [c] h (by omega)).mono fun en w' h => ⟨by rw [h.1]; simp [hexL], ?_⟩
  exact ((Kept.refl w NoB).bytesW 5 (strB [c])).trans' h.2
theorem writeByteN (b : Nat) (l : List UInt8) (c : UInt8) (x : Nat) (hx : c.toNat = x) (w : World) (h : Bld w b l) (hlen : l.length + 1 ≤ 140737488355328) :
    Calls Tryd.prog 27 #[.pointer (some ⟨b, 0, none⟩), .int .u8 (x : Int)] w fun e w' => e = .returned .nilIface ∧ Bld w' b (l ++ [c]) ∧ Below b w w' := by
  subst hx
  exact writeByte_calls b l c w h hlen
def ShS (w0 : World) (l : List UInt8) (gk : Nat) (v : Value) (wr : World) : Prop :=
  ∃ i, i ≤ l.length ∧ gk = l.length - i ∧ v = .int .i64 (i : Int) ∧ Bld wr w0.heap.size (showL (l.take i)) ∧ Below w0.heap.size w0 wr
set_option maxHeartbeats 4000000 in
set_option maxRecDepth 100000 in
theorem shownL_calls (w : World) (l : List UInt8) (hl : l.length ≤ 1099511627) :
    Calls Tryd.prog 13 #[.string (strB l)] w fun en w' => en = .returned (.string (strB (showL l))) ∧ Kept w w' NoB := by
  have kb := fun (W : World) (s : ByteArray) => Lib.run_convert_string_bytes (P := Tryd.prog) W 9 41 5 s Tryd.underlying9 Tryd.underlying41 Tryd.underlying5
  go_enter Tryd.func13, Tryd.ntmps13
  go_wp2_with fail
  go_loopg [7] l.length (fun gk v wr => ShS w l gk v wr)
  case atStart => exact ⟨0, Nat.zero_le _, rfl, rfl, Bld.new _, (Below.refl _ _).alloc (Nat.le_refl _) _⟩
  case round =>
    obtain ⟨i, hi, hgk, rfl, hb, hbel⟩ := hrel
    have HG := Lib.hid hgk
    have HB := Lib.hid hb
    have HW := Lib.hid hbel
    have hsz := hbel.size
    have hlen := showL_len (l.take i)
    rw [List.length_take] at hlen
    have hlen' : (showL (l.take i)).length ≤ 4 * l.length := by omega
    clear hgk hb hbel hlen
    rcases Nat.lt_or_ge i l.length with hlt | hge
    · have hs := showL_snoc l hlt
      have hix : ∀ h, ((strB l)[i]'h) = l[i] := fun h => strB_getI l i h
      have hex1 := strB_cut l i (i + 1)
      rw [show i + 1 - i = 1 by omega, List.drop_eq_getElem_cons hlt, List.take_succ_cons, List.take_zero] at hex1
      have hex2' : ((strB l).extract i (i + 1)).size = 1 := by rw [hex1, strB_size]; rfl
      obtain ⟨c, hc⟩ : ∃ c, l[i] = c := ⟨_, rfl⟩
      rw [hc] at hs hex1
      have hixc : ((strB l)[i]'(by rw [strB_size]; exact hlt)) = c := by rw [strB_getI, hc]
      obtain ⟨x, hx⟩ : ∃ x : Nat, c.toNat = x := ⟨_, rfl⟩
      have HIX := hix (by rw [strB_size]; exact hlt)
      have HS := Lib.hid hs
      clear hs hix HIX hc
      by_cases ho : x < 32 ∨ 126 < x ∨ x = 92
      · have hsc : showC c = 92 :: 120 :: hex2 c := by unfold showC oddC; rw [hx, if_pos (by simpa using ho)]
        have HSC := Lib.hid hsc
        have HX := Lib.hid hx
        clear hsc hx
        have e92 : (⟨#[92, 120]⟩ : ByteArray) ++ strB (hex2 c) = strB (92 :: 120 :: hex2 c) := strB_app [92, 120] (hex2 c)
        have hix' : ((strB l)[i]'(by rw [strB_size]; exact hlt)).toNat = x := by rw [hixc]; exact HX.out
        have hsc4 : (92 :: 120 :: hex2 c).length = 4 := rfl
        have hh2 : (hex2 c).length = 2 := rfl
        obtain ⟨m, hm⟩ : ∃ m, hex2 c = m := ⟨_, rfl⟩
        rw [hm] at e92 hsc4 hh2
        have HM := Lib.hid hm
        have hm2 : m.length ≤ 2 := by omega
        clear hixc hm hsc4 hh2
        have hor : x < 32 ∨ (¬ x < 32 ∧ 126 < x) ∨ (¬ x < 32 ∧ ¬ 126 < x ∧ x = 92) := by omega
        clear ho
        rcases hor with h1 | ⟨h1, h2⟩ | ⟨h1, h2, h3⟩
        case' inl => have t1 : ((x : Int) < 32) := by omega
        case' inr.inl =>
          have t1 : ¬ ((x : Int) < 32) := by omega
          have t2 : (126 < (x : Int)) := by omega
        case' inr.inr =>
          have t1 : ¬ ((x : Int) < 32) := by omega
          have t2 : ¬ (126 < (x : Int)) := by omega
          have t3 : ((x : Int) == 92) = true := by rw [h3]; rfl
          clear h3
        all_goals
          go_wp2_with fail
          refine (hex_one wr c _ _ rfl).mono ?_
          rw [HM.out]
          rintro en w2 ⟨rfl, hk2⟩
          have HB2 := Lib.hid (HB.out.kept0 hk2)
          have HW2 := Lib.hid (HW.out.trans (hk2.below.mono hsz))
          clear hk2
          go_wp2_with fail
          refine (writeString_calls w.heap.size (showL (l.take i)) (92 :: 120 :: m) w2 HB2.out (by simp; omega)).mono ?_
          rintro en w3 ⟨rfl, hb3, hk3⟩
          have HB3 := Lib.hid hb3
          have HW3 := Lib.hid (HW2.out.trans hk3)
          clear hb3 hk3
          go_wp2_with fail
          go_roundg (l.length - (i + 1))
          case measure => have := HG.out; omega
          case rel => exact ⟨i + 1, hlt, rfl, by go_num, by rw [HS.out, HSC.out, HM.out]; exact HB3.out, HW3.out⟩
      · have hsc : showC c = [c] := by unfold showC oddC; rw [hx, if_neg (by simpa using ho)]
        have HSC := Lib.hid hsc
        have HX := Lib.hid hx
        have t1 : ¬ ((x : Int) < 32) := by omega
        have t2 : ¬ (126 < (x : Int)) := by omega
        have t3 : ((x : Int) == 92) = false := by rw [beq_eq_false_iff_ne]; omega
        have hix' : ((strB l)[i]'(by rw [strB_size]; exact hlt)).toNat = x := by rw [hixc, hx]
        clear hsc ho hixc hx
        go_wp2_with fail
        refine (writeByteN w.heap.size (showL (l.take i)) c x HX.out wr HB.out (by omega)).mono ?_
        rintro en w3 ⟨rfl, hb3, hk3⟩
        have HB3 := Lib.hid hb3
        have HW3 := Lib.hid (HW.out.trans hk3)
        clear hb3 hk3
        go_wp2_with fail
        go_roundg (l.length - (i + 1))
        case measure => have := HG.out; omega
        case rel => exact ⟨i + 1, hlt, rfl, by go_num, by rw [HS.out, HSC.out]; exact HB3.out, HW3.out⟩
    · obtain rfl : i = l.length := by omega
      rw [List.take_length] at HB
      go_wp2_with fail
      refine (bldString_calls w.heap.size _ wr HB.out).mono ?_
      rintro en w2 ⟨rfl, hb2⟩
      have HB2 := Lib.hid (Kept.of_below (HW.out.trans hb2))
      clear hb2
      go_wp2_with fail
      go_ret
      exact ⟨rfl, HB2.out⟩

end Go.Proofs.YtammhfnolafknaaDoor
