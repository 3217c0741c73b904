/- IndexAny of ASCII letters (two at least) in any text. -/
import Derived.Test.YtlbipnfnimekfaaDoorShX
import Derived.Test.YtlbipnfnimekfaaDoorIdx
import Derived.Lib.OthersKept
set_option linter.unusedVariables false
set_option linter.unusedSimpArgs false
namespace Go.Proofs.YtlbipnfnimekfaaDoor
open Go.RowKit Go.Shelf

theorem noAny_jump {L l : List UInt8} (hasc : ∀ c ∈ l, c.toNat < 128) {i d : Nat} (h : Lib.NoAny L l i) (hd : ∀ k, k < d → 128 ≤ ((strB L).get! (i + k)).toNat) : Lib.NoAny L l (i + d) := by
  intro j b hj hb
  by_cases hji : j < i
  · exact h j b hji hb
  · obtain ⟨k, rfl⟩ : ∃ k, j = i + k := ⟨j - i, by omega⟩
    obtain ⟨hlt, e⟩ := List.getElem?_eq_some_iff.1 hb
    have h1 := hd k (by omega)
    rw [ix_get! L _ hlt, e] at h1
    cases hc : l.contains b with
    | false => rfl
    | true =>
      have := hasc b (by simpa using hc)
      omega
def IaS (w0 : World) (L l : List UInt8) (gk : Nat) (wr : World) : Prop :=
  ∃ i, i ≤ L.length ∧ gk = L.length - i ∧ wr.heap[w0.heap.size]? = some (.stringIter (strB L) i) ∧ Lib.NoAny L l i ∧ Kept w0 wr NoB
set_option maxHeartbeats 2000000 in
set_option maxRecDepth 100000 in
theorem indexAny_short (w : World) (L l : List UInt8) (hasc : ∀ c ∈ l, c.toNat < 128) (h2 : 2 ≤ l.length) (hl : l.length ≤ 100) (h8 : L.length ≤ 8) :
    Calls Tryd.prog 31 #[.string (strB L), .string (strB l)] w fun en w' => en = .returned (.int .i64 (Lib.indexAny L l)) ∧ Kept w w' NoB := by
  obtain ⟨B, hB⟩ : ∃ B, strB l = B := ⟨_, rfl⟩
  obtain ⟨A, hA⟩ : ∃ A, strB L = A := ⟨_, rfl⟩
  have hBs : B.size = l.length := by rw [← hB, strB_size]
  have hAs : A.size = L.length := by rw [← hA, strB_size]
  have hemp : B.toList.isEmpty = false := by
    rw [Lib.toList_data, ← hB]
    cases l with
    | nil => simp at h2
    | cons _ _ => rfl
  have hn1 : ((l.length : Int) == 1) = false := beq_eq_false_iff_ne.2 (by omega)
  have h8z : decide ((8 : Int) < (L.length : Int)) = false := decide_eq_false (by omega)
  have HASC := Lib.hid hasc
  have HB := Lib.hid hB
  have HA := Lib.hid hA
  clear hasc
  rw [hA, hB]
  clear hA hB
  go_enter Tryd.func31, Tryd.ntmps31
  go_wp2_with fail
  refine (Any.strings_shouldUseASCIISet { shLays153 with } _ _).mono ?_
  rintro en w1 ⟨rfl, rfl⟩
  rw [h8z]
  go_wp2_with fail
  go_loopg [9, 10] L.length (fun gk _ _ wr => IaS w1 L l gk wr)
  case atStart => exact ⟨0, Nat.zero_le _, rfl, by rw [HA.out]; exact World.iter_heap w1 A 0, Lib.NoAny.zero _ _, (Kept.refl _ _).alloc _⟩
  case round =>
    obtain ⟨i, hi, hgk, hit, hno, hk⟩ := hrel
    have HG := Lib.hid hgk
    have HN := Lib.hid hno
    clear hgk hno
    rw [HA.out] at hit
    have hit0 := hit
    rcases Nat.lt_or_ge i L.length with hlt | hge
    · have hsz : i < A.size := by rw [hAs]; exact hlt
      obtain ⟨r, d, hdec⟩ : ∃ r d, Utf8.decode A i = (r, d) := ⟨_, _, rfl⟩
      have hnx := fun ty => Lib.run_next_any_at (P := Tryd.prog) wr w1.heap.size A i ty hit hsz
      rw [hdec] at hnx
      have hsp := decode_span A i hsz
      rw [hdec] at hsp
      have hrl := ix_lt A i
      rw [hdec] at hrl
      simp only at hsp hrl
      have hit1 := Lib.iterAt_heap wr w1.heap.size A i (i + d) hit
      have hsz1 : wr.heap.size ≤ (wr.iterAt w1.heap.size A (i + d)).heap.size := by rw [Lib.iterAt_size]; exact Nat.le_refl _
      have hk1 : Kept w1 (wr.iterAt w1.heap.size A (i + d)) NoB := Kept.of_below (Lib.below_iterAt hk.below (Nat.le_refl _) A (i + d))
      simp only at hnx
      generalize wr.iterAt w1.heap.size A (i + d) = W1 at hnx hit1 hk1 hsz1
      have HD := Lib.hid hdec
      have HSP := Lib.hid hsp
      have HK1 := Lib.hid hk1
      have HIT1 := Lib.hid hit1
      have hw1 : w1.heap.size < wr.heap.size := (Array.getElem?_eq_some_iff.1 hit).1
      have HW1 := Lib.hid hw1
      have HSZ1 := Lib.hid hsz1
      have HK := Lib.hid hk
      clear hdec hsp hk1 hit1 hit hit0 hk hw1 hsz1
      by_cases hbig : 128 ≤ (A[i]'hsz).toNat
      · have hr := ix_big A i hsz hbig
        rw [HD.out] at hr
        simp only at hr
        have HBIG := Lib.hid hbig
        clear hbig
        have HC := Lib.hid (show Calls Tryd.prog 42 #[.string B, .int .i32 (r : Int)] W1 fun en w' => en = .returned (.int .i64 (-1)) ∧ Kept W1 w' NoB by
          rw [← HB.out]
          exact indexRune_big W1 l HASC.out hl (r : Int) (by omega) (by omega))
        go_wp2_with fail
        refine HC.out.mono ?_
        rintro en w2 ⟨rfl, hk2⟩
        have HK2 := Lib.hid hk2
        clear hk2
        go_wp2_with fail
        go_roundg (L.length - (i + d))
        case measure => have := HG.out; have := HSP.out; omega
        case rel =>
          have h1 := HSP.out
          refine ⟨i + d, by omega, rfl, ?_, noAny_jump HASC.out HN.out fun k hk => ?_, HK1.out.trans' HK2.out⟩
          · rw [HA.out]
            exact HK2.out.heap HIT1.out (fun x => x)
          · rw [HA.out]
            cases k with
            | zero =>
              have e : A.get! (i + 0) = A[i]'hsz := by
                show A.get! i = _
                simp [ByteArray.get!, getElem!_pos, hsz]
                rfl
              rw [e]
              exact HBIG.out
            | succ k => exact h1.2.2 (k + 1) (by omega) hk
      · have hr := ix_ascii A i hsz (by omega)
        rw [HD.out] at hr
        obtain ⟨hr1, hr2⟩ := Prod.mk.inj hr
        clear hr
        obtain ⟨x, hx⟩ : ∃ x, A[i]'hsz = x := ⟨_, rfl⟩
        rw [hx] at hr1 hbig
        have hxl : L[i]? = some x := by
          have e1 : (strB L)[i]'(by rw [strB_size]; exact hlt) = L[i] := ix_get L i _
          rw [List.getElem?_eq_getElem hlt, ← e1, ← hx]
          simp only [HA.out]
        have HX := Lib.hid hxl
        have HR1 := Lib.hid hr1
        have HR2 := Lib.hid hr2
        have hcon := Lib.contains_iff_indexByte l x
        have hback : ((r : Nat) : Int).toNat.toUInt8 = x := by rw [hr1]; simp
        have HBK := Lib.hid hback
        clear hxl hr1 hr2 hx hback
        have hr0 : (0 : Int) ≤ (r : Int) := by have := HR1.out; omega
        have hr128 : (r : Int) < 128 := by have := HR1.out; omega
        have hcall : Calls Tryd.prog 42 #[.string B, .int .i32 (r : Int)] W1 fun en w' => en = .returned (.int .i64 (Lib.indexByte l x)) ∧ w' = W1 := by
          refine (Any.strings_IndexRune_ascii shLays152 B (r : Int) W1 hr0 hr128).mono fun en w' h' => ⟨?_, h'.2⟩
          rw [h'.1, HBK.out, ← HB.out]
          rfl
        cases hin : l.contains x
        · rw [hin] at hcon
          have hlt0 : ¬ ((0 : Int) ≤ Lib.indexByte l x) := of_decide_eq_false hcon.symm
          obtain ⟨q, hq⟩ : ∃ q, Lib.indexByte l x = q := ⟨_, rfl⟩
          rw [hq] at hcall hlt0
          have HIN := Lib.hid hin
          have HC := Lib.hid hcall
          clear hcon hq hin hcall
          go_wp2_with fail
          refine HC.out.mono ?_
          rintro en w2 ⟨rfl, rfl⟩
          go_wp2_with fail
          go_roundg (L.length - (i + d))
          case measure => have := HG.out; have := HSP.out; omega
          case rel =>
            have h1 := HSP.out
            refine ⟨i + d, by omega, rfl, ?_, ?_, HK1.out⟩
            · rw [HA.out]; exact HIT1.out
            · rw [HR2.out]
              exact HN.out.succ HX.out HIN.out
        · rw [hin] at hcon
          have hge0 : (0 : Int) ≤ Lib.indexByte l x := of_decide_eq_true hcon.symm
          obtain ⟨q, hq⟩ : ∃ q, Lib.indexByte l x = q := ⟨_, rfl⟩
          rw [hq] at hcall hge0
          have HIN := Lib.hid hin
          have HC := Lib.hid hcall
          clear hcon hq hin hcall
          go_wp2_with fail
          refine HC.out.mono ?_
          rintro en w2 ⟨rfl, rfl⟩
          go_wp2_with fail
          go_ret
          exact ⟨by rw [Lib.indexAny_hit HN.out HX.out HIN.out]; rfl, HK1.out⟩
    · obtain rfl : i = L.length := by omega
      have hnx := fun ty => Lib.run_next_end_at (P := Tryd.prog) wr w1.heap.size A L.length ty hit (by omega)
      go_wp2_with fail
      go_ret
      exact ⟨by rw [Lib.indexAny_none HN.out]; rfl, hk⟩
theorem ia_set : (Tryd.prog.info? (shRen153.t 116)).map (fun i => (i.zero, i.size)) = some (some (.agg (Array.replicate 256 (.bool false))), 256) := by kernel_rfl
theorem indexAny_calls (w : World) (L l : List UInt8) (hasc : ∀ c ∈ l, c.toNat < 128) (h2 : 2 ≤ l.length) (hl : l.length ≤ 100) (hL : L.length < 4294967281) :
    Calls Tryd.prog 31 #[.string (strB L), .string (strB l)] w fun en w' => en = .returned (.int .i64 (Lib.indexAny L l)) ∧ Kept w w' NoB := by
  rcases Nat.lt_or_ge 8 L.length with h8 | h8
  · refine (Any.strings_IndexAny_long shLays153 (zero_of_info ia_set).1 (zero_of_info ia_set).2 (strB L) (strB l) w (by rw [strB_size]; exact h2) (by rw [strB_size]; exact h8) (by rw [strB_size]; exact hL) (by rw [strB_size]; omega) (fun j b hb => hasc b ?_)).mono fun en w' h' => ⟨h'.1, ?_⟩
    · exact List.mem_of_getElem? hb
    · rw [h'.2]
      exact ((Kept.refl _ _).alloc _).alloc _
  · exact indexAny_short w L l hasc h2 hl h8
end Go.Proofs.YtlbipnfnimekfaaDoor
