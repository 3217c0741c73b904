/- IndexRune of a rune that is no ASCII, in a text of ASCII; IndexAny of such letters in any text. -/
import Derived.Test.YtlbipnfnimekfaaDoorShX
import Derived.Test.YtlbipnfnimekfaaDoorW
import Derived.Laws.RangeString
import Derived.BigQuiet
import Derived.Lib.IndexAny
set_option linter.unusedVariables false
set_option linter.unusedSimpArgs false
namespace Go.Proofs.YtlbipnfnimekfaaDoor
open Go.RowKit Go.Shelf

/-! ### Plain: decoding -/
theorem ix_get (l : List UInt8) (i : Nat) (h : i < (strB l).size) : (strB l)[i] = l[i]'(by rwa [strB_size] at h) := by
  rfl
theorem ix_get! (l : List UInt8) (i : Nat) (h : i < l.length) : (strB l).get! i = l[i] := by
  show (strB l).data[i]! = l[i]
  simp [strB, h]
theorem decode_span (s : ByteArray) (i : Nat) (h : i < s.size) : 1 ≤ (Utf8.decode s i).2 ∧ i + (Utf8.decode s i).2 ≤ s.size ∧ ∀ k, 0 < k → k < (Utf8.decode s i).2 → 128 ≤ (s.get! (i + k)).toNat := by
  have hone : ∀ d : Nat, d = 1 → 1 ≤ d ∧ i + d ≤ s.size ∧ ∀ k, 0 < k → k < d → 128 ≤ (s.get! (i + k)).toNat := by
    rintro d rfl
    exact ⟨by omega, by omega, fun k h1 h2 => by omega⟩
  have cont : ∀ k, (decide (i + k < s.size) && (s.get! (i + k)).toNat / 64 == 2) = true → i + k < s.size ∧ 128 ≤ (s.get! (i + k)).toNat := by
    intro k hk
    simp only [Bool.and_eq_true, decide_eq_true_eq, beq_iff_eq] at hk
    exact ⟨hk.1, by omega⟩
  unfold Utf8.decode
  simp only
  split
  · exact hone 1 rfl
  · split
    · next h1 =>
      simp only [Bool.and_eq_true] at h1
      have c1 := cont 1 (by simpa using h1.2)
      split
      · refine ⟨by simp, by simp only; omega, fun k hk1 hk2 => ?_⟩
        obtain rfl : k = 1 := by simp only at hk2; omega
        exact c1.2
      · exact hone 1 rfl
    · split
      · next h1 =>
        simp only [Bool.and_eq_true] at h1
        have c1 := cont 1 (by simpa using h1.1.2)
        have c2 := cont 2 (by simpa using h1.2)
        split
        · refine ⟨by simp, by simp only; omega, fun k hk1 hk2 => ?_⟩
          have : k = 1 ∨ k = 2 := by simp only at hk2; omega
          rcases this with rfl | rfl
          · exact c1.2
          · exact c2.2
        · exact hone 1 rfl
      · split
        · next h1 =>
          simp only [Bool.and_eq_true] at h1
          have c1 := cont 1 (by simpa using h1.1.1.2)
          have c2 := cont 2 (by simpa using h1.1.2)
          have c3 := cont 3 (by simpa using h1.2)
          split
          · refine ⟨by simp, by simp only; omega, fun k hk1 hk2 => ?_⟩
            have : k = 1 ∨ k = 2 ∨ k = 3 := by simp only at hk2; omega
            rcases this with rfl | rfl | rfl
            · exact c1.2
            · exact c2.2
            · exact c3.2
          · exact hone 1 rfl
        · exact hone 1 rfl
theorem ix_big (s : ByteArray) (pos : Nat) (h : pos < s.size) (hb : 128 ≤ (s[pos]'h).toNat) : 128 ≤ (Utf8.decode s pos).1 := by
  have e : s.get! (pos + 0) = s[pos]'h := by
    show s.get! pos = _
    simp [ByteArray.get!, getElem!_pos, h]
    rfl
  have hr : 128 ≤ Utf8.runeError := by decide
  unfold Utf8.decode
  simp only [e]
  rw [if_neg (by omega)]
  split
  · split
    · assumption
    · exact hr
  · split
    · split
      · rename_i h1
        simp only [Bool.and_eq_true, decide_eq_true_eq] at h1
        show 128 ≤ _
        omega
      · exact hr
    · split
      · split
        · rename_i h1
          simp only [Bool.and_eq_true, decide_eq_true_eq] at h1
          show 128 ≤ _
          omega
        · exact hr
      · exact hr
theorem ix_lt (s : ByteArray) (pos : Nat) : (Utf8.decode s pos).1 < 1114112 := by
  have hr : Utf8.runeError < 1114112 := by decide
  have hb : ∀ k, (s.get! k).toNat < 256 := fun k => UInt8.toNat_lt _
  have h0 := hb (pos + 0)
  have h1 := hb (pos + 1)
  have h2 := hb (pos + 2)
  have h3 := hb (pos + 3)
  have hv : ∀ c : Nat, Utf8.valid c = true → c < 1114112 := fun c hc => by
    unfold Utf8.valid at hc
    simp only [Bool.or_eq_true, Bool.and_eq_true, decide_eq_true_eq] at hc
    omega
  unfold Utf8.decode
  simp only
  split
  · show _ < _; omega
  · split
    · split
      · show _ < _; omega
      · exact hr
    · split
      · split
        · next h =>
          simp only [Bool.and_eq_true] at h
          exact hv _ h.2
        · exact hr
      · split
        · split
          · next h =>
            simp only [Bool.and_eq_true] at h
            exact hv _ h.2
          · exact hr
        · exact hr
theorem ix_ascii (s : ByteArray) (pos : Nat) (h : pos < s.size) (ha : (s[pos]'h).toNat < 128) : Utf8.decode s pos = ((s[pos]'h).toNat, 1) := decode_ascii s pos h ha
/-- A rune's bytes: two at least, the last one no ASCII. -/
theorem encode_last (r : Int) (h1 : 128 ≤ r) (hv : Utf8.valid r = true) : ∃ (l : List UInt8) (y : UInt8), Utf8.encode r = strB (l ++ [y]) ∧ 1 ≤ l.length ∧ l.length ≤ 3 ∧ 128 ≤ y.toNat := by
  have hlt : r < 1114112 := by
    unfold Utf8.valid at hv
    simp only [Bool.or_eq_true, Bool.and_eq_true, decide_eq_true_eq] at hv
    omega
  have hy : ∀ c : Nat, 128 ≤ (UInt8.ofNat (0x80 + c % 64)).toNat := fun c => by
    simp
    omega
  unfold Utf8.encode
  simp only [hv, if_true]
  rw [if_neg (by omega)]
  split
  · exact ⟨[_], _, rfl, by simp, by simp, hy _⟩
  · split
    · exact ⟨[_, _], _, rfl, by simp, by simp, hy _⟩
    · exact ⟨[_, _, _], _, rfl, by simp, by simp, hy _⟩
theorem ixb_none {l : List UInt8} {y : UInt8} (h : ∀ c ∈ l, c.toNat < 128) (hy : 128 ≤ y.toNat) : Lib.indexByte l y = -1 := by
  induction l with
  | nil => rfl
  | cons c l ih =>
    have hc : ¬ c = y := fun e => by have := h c (by simp); rw [e] at this; omega
    have ih := ih fun x hx => h x (by simp [hx])
    simp [Lib.indexByte, hc, ih]

/-! ### A range over a string -/
theorem run_next_any {P : Program} (w : World) (s : ByteArray) (pos : Nat) (ty : TypeId) (h : pos < s.size) :
    (Instr.next (.pointer (some ⟨w.heap.size, 0, none⟩)) true ty).run P (w.iter s pos) =
      .ok (.tuple #[.bool true, .int .i64 pos, .int .i32 (Utf8.decode s pos).1]) (w.iter s (pos + (Utf8.decode s pos).2)) := by
  simp only [Instr.next, getObj, setObj, Sem.run_bind, Sem.run, World.iter_heap, Result.andThen, h, if_true, World.iter_set]
  simp [goInt, Sem.run, World.iter_heap, World.iter_set]
/-! ### IndexRune -/
set_option maxRecDepth 100000 in
theorem validRune_calls (w : World) (r : Int) (h : 128 ≤ r) (b : Bool) (hb : Utf8.valid r = b) :
    Calls Tryd.prog 57 #[.int .i32 r] w fun en w' => en = .returned (.bool b) ∧ w' = w := by
  have t0 : (0 : Int) ≤ r := by omega
  unfold Utf8.valid at hb
  by_cases h1 : r < 55296
  · have e : b = true := by rw [← hb, decide_eq_true t0, decide_eq_true (show r < 0xD800 by omega)]; rfl
    subst e
    clear hb
    go_enter Tryd.func57, Tryd.ntmps57
    go_wp2_with fail
    go_ret
    exact ⟨rfl, rfl⟩
  · by_cases h2 : 57343 < r
    · by_cases h3 : r ≤ 1114111
      · have e : b = true := by rw [← hb, decide_eq_true (show 0xE000 ≤ r by omega), decide_eq_true (show r ≤ 0x10FFFF by omega)]; simp
        subst e
        clear hb
        go_enter Tryd.func57, Tryd.ntmps57
        go_wp2_with fail
        go_ret
        exact ⟨rfl, rfl⟩
      · have e : b = false := by rw [← hb, decide_eq_false (show ¬ r < 0xD800 by omega), decide_eq_false (show ¬ r ≤ 0x10FFFF by omega)]; simp
        subst e
        clear hb
        go_enter Tryd.func57, Tryd.ntmps57
        go_wp2_with fail
        go_ret
        exact ⟨rfl, rfl⟩
    · have e : b = false := by rw [← hb, decide_eq_false (show ¬ r < 0xD800 by omega), decide_eq_false (show ¬ 0xE000 ≤ r by omega)]; simp
      subst e
      clear hb
      go_enter Tryd.func57, Tryd.ntmps57
      go_wp2_with fail
      go_ret
      exact ⟨rfl, rfl⟩
theorem ixByte_calls (w : World) (l : List UInt8) (y : UInt8) (h : Lib.indexByte l y = -1) :
    Calls Tryd.prog 22 #[.string (strB l), .int .u8 (y.toNat : Int)] w fun en w' => en = .returned (.int .i64 (-1)) ∧ w' = w := by
  refine (Any.strings_IndexByte shLays137 (strB l) (y.toNat : Int) w).mono fun en w' h' => ⟨?_, h'.2⟩
  have e : ((y.toNat : Int)).toNat.toUInt8 = y := by simp
  rw [h'.1, strB_toList, e, h]
def RnS (w0 : World) (l : List UInt8) (gk : Nat) (wr : World) : Prop := ∃ i, i ≤ l.length ∧ gk = l.length - i ∧ wr = w0.iter (strB l) i
def RnT (w0 : World) (n : Nat) (gk : Nat) (v9 : Value) (wr : World) : Prop := v9 = .int .i64 (n : Int) ∧ wr = w0
theorem ix_cut (L : List UInt8) (i j : Nat) : (strB L).extract i j = strB ((L.drop i).take (j - i)) := by
  apply ByteArray.ext
  simp [strB, ByteArray.data_extract, List.extract_toArray, List.extract_eq_take_drop]
set_option maxHeartbeats 2000000 in
set_option maxRecDepth 100000 in
theorem indexRune_big (w : World) (l : List UInt8) (hasc : ∀ c ∈ l, c.toNat < 128) (hl : l.length ≤ 100) (r : Int) (h1 : 128 ≤ r) (h2 : r < 1114112) :
    Calls Tryd.prog 42 #[.string (strB l), .int .i32 r] w fun en w' => en = .returned (.int .i64 (-1)) ∧ Kept w w' NoB := by
  have t0 : (0 : Int) ≤ r := by omega
  have t1 : ¬ r < 128 := by omega
  have HASC := Lib.hid hasc
  clear hasc
  by_cases hre : r = 65533
  · subst hre
    go_enter Tryd.func42, Tryd.ntmps42
    go_wp2_with fail
    go_loopg [] l.length (fun gk wr => RnS w l gk wr)
    case atStart => exact ⟨0, Nat.zero_le _, rfl, rfl⟩
    case round =>
      obtain ⟨i, hi, hgk, rfl⟩ := hrel
      have HG := Lib.hid hgk
      clear hgk
      rcases Nat.lt_or_ge i l.length with hlt | hge
      · have hnx := fun ty => run_next_any (P := Tryd.prog) w (strB l) i ty (by rw [strB_size]; exact hlt)
        have hd := ix_ascii (strB l) i (by rw [strB_size]; exact hlt) (by rw [ix_get]; exact HASC.out _ (List.getElem_mem hlt))
        have hx := HASC.out l[i] (List.getElem_mem hlt)
        rw [ix_get] at hd
        obtain ⟨x, hxx⟩ : ∃ x, l[i].toNat = x := ⟨_, rfl⟩
        rw [hxx] at hd hx
        simp only [hd] at hnx
        have t2 : ((x : Int) == 65533) = false := by rw [beq_eq_false_iff_ne]; omega
        clear hd hxx
        go_wp2_with fail
        go_roundg (l.length - (i + 1))
        case measure => have := HG.out; omega
        case rel => exact ⟨i + 1, hlt, rfl, rfl⟩
      · obtain rfl : i = l.length := by omega
        have hnx := fun ty => run_next_end (P := Tryd.prog) w (strB l) l.length ty (by rw [strB_size]; omega)
        go_wp2_with fail
        go_ret
        exact ⟨rfl, (Kept.refl _ _).alloc _⟩
  · have t2 : (r == 65533) = false := beq_eq_false_iff_ne.2 hre
    clear hre
    cases hv : Utf8.valid r with
    | false =>
      have HV := Lib.hid hv
      clear hv
      go_enter Tryd.func42, Tryd.ntmps42
      go_wp2_with fail
      refine (validRune_calls w r h1 false HV.out).mono ?_
      rintro en w1 ⟨rfl, rfl⟩
      go_wp2_with fail
      go_ret
      exact ⟨rfl, Kept.refl _ _⟩
    | true =>
      obtain ⟨E, y, hE, hE1, hE3, hy⟩ := encode_last r h1 hv
      obtain ⟨B, hB⟩ : ∃ B, strB (E ++ [y]) = B := ⟨_, rfl⟩
      have hBs : B.size = E.length + 1 := by rw [← hB, strB_size]; simp
      have hBg : ∀ h : E.length < B.size, (B[E.length]'h) = y := by subst hB; intro h; rw [ix_get]; simp
      rw [hB] at hE
      have HV := Lib.hid hv
      have HE := Lib.hid hE
      clear hv hE hB
      go_enter Tryd.func42, Tryd.ntmps42
      go_wp2_with fail
      refine (validRune_calls w r h1 true HV.out).mono ?_
      rintro en w1 ⟨rfl, rfl⟩
      go_wp2_with fail
      have hcv : ∀ W : World, (convert 21 9 (.int .i32 r)).run Tryd.prog W = .ok (.string B) W := by
        intro W
        rw [← HE.out]
        rfl
      go_wp2
      go_step3
      go_wp2
      go_loopg [9] 1 (fun gk v9 wr => RnT w1 E.length gk v9 wr)
      case atStart => exact ⟨rfl, rfl⟩
      case round =>
        obtain ⟨rfl, rfl⟩ := hrel
        rcases Nat.lt_or_ge E.length l.length with hlt | hge
        · have hx := HASC.out _ (List.getElem_mem hlt)
          have hg : ∀ h : E.length < (strB l).size, ((strB l)[E.length]'h) = l[E.length] := fun h => ix_get l _ h
          have hne : (((l[E.length].toNat : Int)) == (y.toNat : Int)) = false := by rw [beq_eq_false_iff_ne]; omega
          have hcut : (strB l).extract (E.length + 1) l.length = strB (l.drop (E.length + 1)) := by
            rw [ix_cut, List.take_of_length_le (by simp)]
          have hw : IntKind.i64.wrap ((E.length : Int) + 1) = (E.length : Int) + 1 := by rw [IntKind.wrap_i64]; omega
          have hsz : (strB l).size = l.length := strB_size l
          have htn : ((E.length : Int) + 1).toNat = E.length + 1 := by omega
          have hsl : ∀ W : World, (Instr.slice 9 (.string (strB l)) (some (.int .i64 ((E.length : Int) + 1))) none none).run Tryd.prog W = .ok (.string (strB (l.drop (E.length + 1)))) W := by
            intro W
            rw [run_slice_string_l W _ _ (by rfl) _ _ (by omega) (by omega), htn, hsz, hcut]
          have hib : ∀ W : World, (Instr.index 9 (.string B) (.int .i64 (E.length : Int))).run Tryd.prog W = .ok (.int .u8 (y.toNat : Int)) W := by
            intro W
            have e := hBg (by omega)
            rw [run_index_string W _ _ _ _ (by rfl), dif_pos ⟨by omega, by omega⟩]
            simp only [Int.toNat_natCast, e]
          clear hcut
          have hlt' : E.length + 1 ≤ l.length := hlt
          have HIX := Lib.hid (fun W : World => ixByte_calls W (l.drop (E.length + 1)) y (ixb_none (fun c hc => HASC.out c (List.mem_of_mem_drop hc)) hy))
          go_wp2_with fail
          go_step3
          go_wp2_with fail
          go_quiet (fail)
          go_wp2_with fail
          go_quiet (exact (HIX.out _).mono fun _ _ h => ⟨h.1, _, h.2⟩)
          go_wp2
          simp only [Exit.then, Exit.inBlock, Exit.noGoto_ret]
          go_ret
          exact ⟨rfl, (Kept.refl _ _).drewN _⟩
        · go_wp2
          first | go_ret | (rw [Exit.noGoto_ret]; go_ret)
          exact ⟨rfl, Kept.refl _ _⟩
end Go.Proofs.YtlbipnfnimekfaaDoor
