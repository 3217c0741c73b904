/- The reference's digests: turned, round, word, sines. -/
import Derived.Test.YthnebhnlkjkcmaaDoorMdR
import Derived.Test.YthnebhnlkjkcmaaDoorStp
set_option linter.unusedVariables false
set_option linter.unusedSimpArgs false
namespace Go.Proofs.YthnebhnlkjkcmaaDoor
open Go.RowKit

theorem turned_calls (w : World) (x : BitVec 32) (k : Nat) (h0 : 0 < k) (hk : k < 32) :
    Calls Tryd.prog 51 #[.int .u32 (U x), .int .i64 (k : Int)] w fun en w' => en = .returned (.int .u32 (U (x.rotateLeft k))) ∧ ∃ n, w' = w.drewN n := by
  obtain ⟨hb0, hb1⟩ := U_bd x
  go_enter Tryd.func51, Tryd.ntmps51
  go_wp2_with fail
  go_quiet (fail)
  go_wp2_with fail
  go_ret
  exact ⟨by rw [rot_U x k h0 hk]; rfl, _, rfl⟩

theorem round_q0 (w : World) (i : Nat) (hi : i < 16) (b c d x1 x2 x3 f : Int) (h1 : bits .and .u32 b c = x1)
    (h2 : bits .xor .u32 (if IntKind.signed .u32 = true then -1 else IntKind.max .u32) b = x2) (h3 : bits .and .u32 x2 d = x3) (h4 : bits .or .u32 x1 x3 = f) :
    Calls Tryd.prog 50 #[.int .i64 (i : Int), .int .u32 b, .int .u32 c, .int .u32 d] w fun en w' => en = .returned (.tuple #[.int .u32 f, .int .i64 ((i : Nat) : Int)]) ∧ w = w' := by
  have hq : (i : Int) / 16 = 0 := by omega
  go_enter Tryd.func50, Tryd.ntmps50
  go_wp2_with fail
  go_ret2
  exact ⟨rfl, rfl⟩
theorem round_q1 (w : World) (i G : Nat) (hi : 16 ≤ i ∧ i < 32) (b c d x1 x2 x3 f : Int) (h1 : bits .and .u32 d b = x1)
    (h2 : bits .xor .u32 (if IntKind.signed .u32 = true then -1 else IntKind.max .u32) d = x2) (h3 : bits .and .u32 x2 c = x3) (h4 : bits .or .u32 x1 x3 = f) (hG : (5 * (i : Int) + 1) % 16 = (G : Int)) :
    Calls Tryd.prog 50 #[.int .i64 (i : Int), .int .u32 b, .int .u32 c, .int .u32 d] w fun en w' => en = .returned (.tuple #[.int .u32 f, .int .i64 (G : Int)]) ∧ w = w' := by
  have hq : (i : Int) / 16 = 1 := by omega
  go_enter Tryd.func50, Tryd.ntmps50
  go_wp2_with fail
  go_ret2
  exact ⟨by rw [← hG]; rfl, rfl⟩
theorem round_q2 (w : World) (i G : Nat) (hi : 32 ≤ i ∧ i < 48) (b c d x1 f : Int) (h1 : bits .xor .u32 b c = x1) (h4 : bits .xor .u32 x1 d = f) (hG : (3 * (i : Int) + 5) % 16 = (G : Int)) :
    Calls Tryd.prog 50 #[.int .i64 (i : Int), .int .u32 b, .int .u32 c, .int .u32 d] w fun en w' => en = .returned (.tuple #[.int .u32 f, .int .i64 (G : Int)]) ∧ w = w' := by
  have hq : (i : Int) / 16 = 2 := by omega
  go_enter Tryd.func50, Tryd.ntmps50
  go_wp2_with fail
  go_ret2
  exact ⟨by rw [← hG]; rfl, rfl⟩
theorem round_q3 (w : World) (i G : Nat) (hi : 48 ≤ i ∧ i < 64) (b c d x1 x2 f : Int) (h1 : bits .xor .u32 (if IntKind.signed .u32 = true then -1 else IntKind.max .u32) d = x1) (h2 : bits .or .u32 b x1 = x2) (h4 : bits .xor .u32 c x2 = f) (hG : (7 * (i : Int)) % 16 = (G : Int)) :
    Calls Tryd.prog 50 #[.int .i64 (i : Int), .int .u32 b, .int .u32 c, .int .u32 d] w fun en w' => en = .returned (.tuple #[.int .u32 f, .int .i64 (G : Int)]) ∧ w = w' := by
  have hq : (i : Int) / 16 = 3 := by omega
  go_enter Tryd.func50, Tryd.ntmps50
  go_wp2_with fail
  go_ret2
  exact ⟨by rw [← hG]; rfl, rfl⟩
theorem round_calls (w : World) (i : Nat) (hi : i < 64) (b c d : BitVec 32) :
    Calls Tryd.prog 50 #[.int .i64 (i : Int), .int .u32 (U b), .int .u32 (U c), .int .u32 (U d)] w fun en w' => en = .returned (.tuple #[.int .u32 (U (fP (i / 16) b c d)), .int .i64 ((gP i : Nat) : Int)]) ∧ w = w' := by
  rw [← fR_eq]
  rcases (show i / 16 = 0 ∨ i / 16 = 1 ∨ i / 16 = 2 ∨ i / 16 = 3 by omega) with hq | hq | hq | hq
  · have hg : gP i = i := by unfold gP; rw [if_pos hq]; omega
    rw [hg, hq]
    exact round_q0 w i (by omega) _ _ _ _ _ _ _ (and_U b c) (notM_U b) (and_U _ d) (or_U _ _)
  · have hg : gP i = (5 * i + 1) % 16 := by unfold gP; rw [if_neg (by omega), if_pos hq]
    rw [hq]
    exact round_q1 w i _ (by omega) _ _ _ _ _ _ _ (and_U d b) (notM_U d) (and_U _ c) (or_U _ _) (by rw [hg]; omega)
  · have hg : gP i = (3 * i + 5) % 16 := by unfold gP; rw [if_neg (by omega), if_neg (by omega), if_pos hq]
    rw [hq]
    exact round_q2 w i _ (by omega) _ _ _ _ _ (xor_U b c) (xor_U _ d) (by rw [hg]; omega)
  · have hg : gP i = (7 * i) % 16 := by unfold gP; rw [if_neg (by omega), if_neg (by omega), if_neg (by omega)]
    rw [hq]
    exact round_q3 w i _ (by omega) _ _ _ _ _ _ (notM_U d) (or_U b _) (xor_U c _) (by rw [hg]; omega)

theorem add_off (a : Addr) (i k : Nat) : a.add (i + (k + 1)) = ⟨a.block, a.off + (i + (k + 1)), none⟩ := by simp [Addr.add]
theorem getD_at (L : List UInt8) (k : Nat) (h : k < L.length) : ∃ x : Nat, (L.getD k 0).toNat = x ∧ x < 256 ∧ (b8s L)[k]? = some (.int .u8 (x : Int)) :=
  ⟨_, rfl, UInt8.toNat_lt _, by rw [b8s_at L k h, List.getD_eq_getElem?_getD, List.getElem?_eq_getElem h]; rfl⟩
set_option maxHeartbeats 1000000 in
theorem word_calls (w : World) (S : Nat → Prop) (A : Option Addr) (n c : Nat) (L : List UInt8) (hR : Reads w S A n (b8s L)) (at_ : Nat) (h : at_ + 4 ≤ n) (hn : n ≤ 1099511627776) :
    Calls Tryd.prog 52 #[.slice A n c, .int .i64 (at_ : Int)] w fun en w' => en = .returned (.int .u32 (U (pwW L at_ 4))) ∧ ∃ n, w' = w.drewN n := by
  obtain ⟨ad, rfl, _, _, hcell⟩ := hR.2 (by omega)
  have hln : L.length = n := by have := hR.1; rwa [b8s_length] at this
  have e := pwW_four L at_
  obtain ⟨x0, e0, b0, l0⟩ := getD_at L at_ (by omega)
  obtain ⟨x1, e1, b1, l1⟩ := getD_at L (at_ + 1) (by omega)
  obtain ⟨x2, e2, b2, l2⟩ := getD_at L (at_ + 2) (by omega)
  obtain ⟨x3, e3, b3, l3⟩ := getD_at L (at_ + 3) (by omega)
  rw [e0, e1, e2, e3] at e
  have c0 := hcell _ _ l0
  have c1 := hcell _ _ l1
  have c2 := hcell _ _ l2
  have c3 := hcell _ _ l3
  rw [add_off ad at_ 0] at c1
  rw [add_off ad at_ 1] at c2
  rw [add_off ad at_ 2] at c3
  have HE := Lib.hid e
  clear e hcell hR hln e0 e1 e2 e3 l0 l1 l2 l3
  have t0 : (at_ : Int) < (n : Int) := by omega
  have t1 : (at_ : Int) + 1 < (n : Int) := by omega
  have t2 : (at_ : Int) + 2 < (n : Int) := by omega
  have t3 : (at_ : Int) + 3 < (n : Int) := by omega
  have k1 : ((at_ : Int) + 1).toNat = at_ + 1 := by omega
  have k2 : ((at_ : Int) + 2).toNat = at_ + 2 := by omega
  have k3 : ((at_ : Int) + 3).toNat = at_ + 3 := by omega
  have p1 : 0 ≤ (at_ : Int) + 1 := by omega
  have p2 : 0 ≤ (at_ : Int) + 2 := by omega
  have p3 : 0 ≤ (at_ : Int) + 3 := by omega
  have q1 : IntKind.i64.wrap ((at_ : Int) + 1) = (at_ : Int) + 1 := IntWalk.i64_in _ (by omega)
  have q2 : IntKind.i64.wrap ((at_ : Int) + 2) = (at_ : Int) + 2 := IntWalk.i64_in _ (by omega)
  have q3 : IntKind.i64.wrap ((at_ : Int) + 3) = (at_ : Int) + 3 := IntWalk.i64_in _ (by omega)
  have r0 : IntKind.u32.wrap (x0 : Int) = x0 := IntWalk.u32_in _ (by omega)
  have r1 : IntKind.u32.wrap (x1 : Int) = x1 := IntWalk.u32_in _ (by omega)
  have r2 : IntKind.u32.wrap (x2 : Int) = x2 := IntWalk.u32_in _ (by omega)
  have r3 : IntKind.u32.wrap (x3 : Int) = x3 := IntWalk.u32_in _ (by omega)
  go_enter Tryd.func52, Tryd.ntmps52
  go_wp2_with fail
  go_quiet (fail)
  go_wp2_with fail
  go_ret
  refine ⟨?_, _, rfl⟩
  rw [HE.out]
  congr 2

/-- The words of the sines. -/
def sinA : Array Value := ((List.range 64).map fun i => Value.int .u32 (U (BitVec.ofNat 32 (sineN i)))).toArray
theorem sinA_at (i : Nat) (h : i < 64) : sinA[i]? = some (.int .u32 (U (BitVec.ofNat 32 (sineN i)))) := by
  unfold sinA
  rw [List.getElem?_toArray, List.getElem?_map, List.getElem?_range h]
  rfl
set_option maxRecDepth 100000 in
set_option maxHeartbeats 2000000 in
theorem sines_calls (w : World) :
    Calls Tryd.prog 48 #[] w fun en w' => en = .returned (.slice (some ⟨w.heap.size, 0, none⟩) 64 64) ∧ w' = w.alloc (.cells sinA 63) := by
  go_enter Tryd.func48, Tryd.ntmps48
  go_wp2_with fail
  go_ret
  refine ⟨rfl, ?_⟩
  congr 2
end Go.Proofs.YthnebhnlkjkcmaaDoor
