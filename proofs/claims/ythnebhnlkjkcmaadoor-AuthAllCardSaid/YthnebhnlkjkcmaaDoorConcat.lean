/- slices.Concat of two rows of bytes. -/
import Derived.Test.YthnebhnlkjkcmaaDoorW
import Derived.Test.YthnebhnlkjkcmaaDoorShGrow
set_option linter.unusedVariables false
set_option linter.unusedSimpArgs false
namespace Go.Proofs.YthnebhnlkjkcmaaDoor
open Go.RowKit Go.Shelf Go.Lib

theorem cc_info : (Tryd.prog.info? 5).map (fun i => (i.zero, i.size, i.bytes)) = some (some (.int .u8 0), 1, 1) := by kernel_rfl
theorem grow_calls (w : World) (N : Nat) (h0 : 0 < N) (hN : N ≤ 140737488355328) :
    Calls Tryd.prog 72 #[.slice none 0 0, .int .i64 (N : Int)] w fun en w' => ∃ v, en = .returned v ∧ Kept w w' NoB ∧ Row w' 5 (fun b => w.heap.size ≤ b) v [] := by
  obtain ⟨i0, hi, hzz⟩ := Option.map_eq_some_iff.1 cc_info
  simp only [Prod.mk.injEq] at hzz
  obtain ⟨hz0, hz1, hz2⟩ := hzz
  refine (Any8.slices_Grow_grow shGrow i0 (.int .u8 0) hi hz0 (by omega) none 0 0 N [] w (Nat.le_refl _) (by omega) (by rw [hz2]; omega) (by omega) (by simp) (fun _ => rfl) (fun a h => by cases h)).mono ?_
  rintro en w' ⟨rfl, rfl⟩
  have hge := grownCap_ge w (0 + N) 0 5
  have hle := grownCap_le_maxLen w (0 + N) 0 5 (by unfold maxLen; omega)
  refine ⟨_, rfl, (Kept.refl w NoB).drew.alloc _, ⟨rfl, .inr ⟨w.heap.size, _, _, rfl, Nat.zero_le _, heap_alloc_new w.drew _, Nat.zero_le _, hle, ?_, rfl⟩⟩, fun k hk => by
    have : w.heap.size = k := by simpa [Value.ownBlock] using hk
    omega⟩
  have e : (Value.int .u8 0).cells = #[.int .u8 0] := rfl
  rw [Array.size_append, Array.size_append, size_zeroCells, size_zeroCells, e]
  simp only [List.size_toArray, List.length_nil]
  show 0 + (0 + N - 0) * 1 + (grownCap w (0 + N) 0 5 - (0 + N)) * 1 = grownCap w (0 + N) 0 5 * 1
  omega
def CcA (w0 : World) (n m gk : Nat) (v3 v11 : Value) (wr : World) : Prop :=
  ∃ i, i ≤ 2 ∧ gk = 2 - i ∧ v11 = .int .i64 (i : Int) ∧ v3 = .int .i64 ((if i = 0 then 0 else if i = 1 then n else n + m : Nat) : Int) ∧ w0 = wr
def CcB (w0 : World) (a b : List UInt8) (gk : Nat) (v6 v27 : Value) (wr : World) : Prop :=
  ∃ i, i ≤ 2 ∧ gk = 2 - i ∧ v27 = .int .i64 (i : Int) ∧ Row wr 5 (fun k => w0.heap.size ≤ k) v6 (if i = 0 then [] else if i = 1 then b8s a else b8s a ++ b8s b) ∧ Kept w0 wr NoB
theorem cc_one {l : List UInt8} : ∀ u ∈ b8s l, u.oneCell' = true := fun u hu => by
  obtain ⟨b, _, rfl⟩ := List.mem_map.1 hu
  rfl
set_option maxHeartbeats 4000000 in
set_option maxRecDepth 100000 in
theorem concat_calls (w : World) (gv : Nat) (S T : Nat → Prop) (A : Option Addr) (n c : Nat) (a : List UInt8) (B : Option Addr) (m d : Nat) (b : List UInt8)
    (hV : Blk w gv 27 #[.slice A n c, .slice B m d]) (hA : Reads w S A n (b8s a)) (hB : Reads w T B m (b8s b)) (hn : n ≤ 1099511627776) (hm : m ≤ 1099511627776) (h0 : 0 < n) :
    Calls Tryd.prog 61 #[.slice (some ⟨gv, 0, none⟩) 2 2] w fun en w' => ∃ v, en = .returned v ∧ Kept w w' NoB ∧ Row w' 5 (fun k => w.heap.size ≤ k) v (b8s (a ++ b)) := by
  have hla : a.length = n := by have := hA.1; rwa [b8s_length] at this
  have hlb : b.length = m := by have := hB.1; rwa [b8s_length] at this
  have HV := Lib.hid hV
  have HA := Lib.hid hA
  have HB := Lib.hid hB
  have HLA := Lib.hid hla
  have HLB := Lib.hid hlb
  clear hV hA hB hla hlb
  go_enter Tryd.func61, Tryd.ntmps61
  go_wp2_with fail
  go_loopg [3, 5, 11] 2 (fun gk v3 _ v11 wr => CcA w n m gk v3 v11 wr)
  case atStart => exact ⟨0, Nat.zero_le _, rfl, rfl, rfl, rfl⟩
  case round =>
    obtain ⟨i, hi, hgk, rfl, rfl, rfl⟩ := hrel
    have HG := Lib.hid hgk
    have c0 : w.cell? ⟨gv, 0, none⟩ = some (.slice A n c) := HV.out.cell 0
    have c1 : w.cell? ⟨gv, 1, none⟩ = some (.slice B m d) := HV.out.cell 1
    clear hgk
    rcases (show i = 0 ∨ i = 1 ∨ i = 2 by omega) with rfl | rfl | rfl
    · simp only [if_true]
      go_wp2_with fail
      go_roundg 1
      case measure => have := HG.out; omega
      case rel => exact ⟨1, by omega, rfl, rfl, by simp, rfl⟩
    · simp only [show ¬ (1 : Nat) = 0 by omega, if_true, if_false]
      go_wp2_with fail
      go_roundg 0
      case measure => have := HG.out; omega
      case rel => exact ⟨2, by omega, rfl, rfl, by simp, rfl⟩
    · simp only [show ¬ (2 : Nat) = 0 by omega, show ¬ (2 : Nat) = 1 by omega, if_false]
      obtain ⟨N, hN⟩ : ∃ N, n + m = N := ⟨_, rfl⟩
      have hNb : N ≤ 2199023255552 := by omega
      have hN0 : 0 < N := by omega
      rw [hN]
      clear c0 c1
      have HN := Lib.hid hN
      clear hN
      go_wp2_with fail
      refine (grow_calls w N hN0 (by omega)).mono ?_
      rintro en w2 ⟨v, rfl, hk, hrow⟩
      have HK2 := Lib.hid hk
      have HR2 := Lib.hid hrow
      clear hk hrow
      go_wp2_with fail
      go_loopg [6, 8, 27] 2 (fun gk v6 _ v27 wr => CcB w a b gk v6 v27 wr)
      case atStart => exact ⟨0, Nat.zero_le _, rfl, rfl, HR2.out, HK2.out⟩
      case round =>
        obtain ⟨i, hi, hgk, rfl, hrow, hk⟩ := hrel
        have HG2 := Lib.hid hgk
        have HK := Lib.hid hk
        have c0 : wr.cell? ⟨gv, 0, none⟩ = some (.slice A n c) := (HV.out.kept0 hk).cell 0
        have c1 : wr.cell? ⟨gv, 1, none⟩ = some (.slice B m d) := (HV.out.kept0 hk).cell 1
        have hsz := hk.size
        clear hgk hk
        rcases (show i = 0 ∨ i = 1 ∨ i = 2 by omega) with rfl | rfl | rfl
        · simp only [if_true] at hrow
          have HROW := Lib.hid hrow
          clear hrow
          go_wp2_with (at_builtin; refine wpList_appN (W := wr) rfl _ _ 27 5 (.int .u8 0) 1 rfl Tryd.underlying27 cc_info rfl (by decide) (fun k => w.heap.size ≤ k) S _ [] (b8s a) A n c rfl rfl cc_one HROW.out (HA.out.kept0 HK.out) (fun k hk => Nat.le_trans hsz hk) (by simp; omega) ?_; intro v3 w3 hrow3 hk3 hob3)
          have HK3 := Lib.hid (HK.out.trans hk3 fun k hk => .inr (HROW.out.2 k hk))
          have HR3 := Lib.hid hrow3
          clear hrow3 hk3 hob3 c0 c1
          go_roundg 1
          case measure => have := HG2.out; omega
          case rel => exact ⟨1, by omega, rfl, rfl, by simpa using HR3.out, HK3.out⟩
        · simp only [show ¬ (1 : Nat) = 0 by omega, if_true, if_false] at hrow
          have HROW := Lib.hid hrow
          clear hrow
          go_wp2_with (at_builtin; refine wpList_appN (W := wr) rfl _ _ 27 5 (.int .u8 0) 1 rfl Tryd.underlying27 cc_info rfl (by decide) (fun k => w.heap.size ≤ k) T _ (b8s a) (b8s b) B m d rfl rfl cc_one HROW.out (HB.out.kept0 HK.out) (fun k hk => Nat.le_trans hsz hk) (by rw [b8s_length, HLA.out]; omega) ?_; intro v3 w3 hrow3 hk3 hob3)
          have HK3 := Lib.hid (HK.out.trans hk3 fun k hk => .inr (HROW.out.2 k hk))
          have HR3 := Lib.hid hrow3
          clear hrow3 hk3 hob3 c0 c1
          go_roundg 0
          case measure => have := HG2.out; omega
          case rel => exact ⟨2, by omega, rfl, rfl, by simpa using HR3.out, HK3.out⟩
        · simp only [show ¬ (2 : Nat) = 0 by omega, show ¬ (2 : Nat) = 1 by omega, if_false] at hrow
          rw [← b8s_append] at hrow
          have HROW := Lib.hid hrow
          clear hrow c0 c1
          go_wp2_with fail
          go_ret
          exact ⟨_, rfl, HK.out, HROW.out⟩
end Go.Proofs.YthnebhnlkjkcmaaDoor
