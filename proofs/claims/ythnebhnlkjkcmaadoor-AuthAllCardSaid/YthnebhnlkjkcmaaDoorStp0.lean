/- A step of the sum. -/
import Derived.Test.YthnebhnlkjkcmaaDoorStp
set_option linter.unusedVariables false
set_option linter.unusedSimpArgs false
namespace Go.Proofs.YthnebhnlkjkcmaaDoor
open Go.RowKit

set_option maxHeartbeats 4000000 in
set_option maxRecDepth 100000 in
theorem step_q0 (w : World) (i : Nat) (hi : 0 ≤ i ∧ i < 16) (a b c d f x1 x2 sn mg s1 s2 s3 rt nb : Int) (K gm G : Nat)
    (h1 : bits .xor .u32 c d = x1) (h2 : bits .and .u32 b x1 = x2) (h3 : bits .xor .u32 d x2 = f)
    (hs1 : IntKind.u32.wrap (a + f) = s1) (hs2 : IntKind.u32.wrap (s1 + sn) = s2) (hs3 : IntKind.u32.wrap (s2 + mg) = s3) (hnb : IntKind.u32.wrap (b + rt) = nb)
    (hsn : ∀ W, Kept w W NoB → Calls Tryd.prog 73 #[.int .i64 (i : Int)] W fun en w' => en = .returned (.int .u32 sn) ∧ W = w')
    (hrt : ∀ W, Calls Tryd.prog 74 #[.int .u32 s3, .int .i64 (K : Int)] W fun en w' => en = .returned (.int .u32 rt) ∧ W = w')
    (hm : w.cell? ⟨gm, G, none⟩ = some (.int .u32 mg)) (hG : ((i : Int)) % 16 = (G : Int)) (hG16 : G < 16) (hK : turnAt i = K) :
    Calls Tryd.prog 64 #[.agg #[.int .u32 a, .int .u32 b, .int .u32 c, .int .u32 d], .int .i64 (i : Int), .pointer (some ⟨gm, 0, none⟩)] w fun en w' => en = .returned (.agg #[.int .u32 d, .int .u32 nb, .int .u32 b, .int .u32 c]) ∧ Kept w w' NoB := by
  have hq : (i : Int) / 16 = 0 := by omega
  obtain ⟨R, hR⟩ : ∃ R : Nat, i % 4 = R := ⟨_, rfl⟩
  have hR4 : R < 4 := by omega
  have hRi : (i : Int) % 4 = (R : Int) := by omega
  have htu : turnN[0 + R]? = some K := by
    rw [← hK, turnAt, show i / 16 * 4 + i % 4 = 0 + R by omega, List.getD_eq_getElem?_getD]
    have : 0 + R < turnN.length := by show 0 + R < 16; omega
    rw [List.getElem?_eq_getElem this]
    rfl
  have HSN := Lib.hid hsn
  have HRT := Lib.hid hrt
  have HTU := Lib.hid htu
  clear hsn hrt hK hR htu
  go_enter Tryd.func64, Tryd.ntmps64
  go_upto_region 2 with (fail)
  have hk3 : Kept w (((w.alloc (.cells #[.int .u32 a, .int .u32 b, .int .u32 c, .int .u32 d] 65)).alloc (.cells #[.int .u32 0, .int .u32 0, .int .u32 0, .int .u32 0] 65)).alloc (.cells #[.int .i64 7, .int .i64 12, .int .i64 17, .int .i64 22, .int .i64 5, .int .i64 9, .int .i64 14, .int .i64 20, .int .i64 4, .int .i64 11, .int .i64 16, .int .i64 23, .int .i64 6, .int .i64 10, .int .i64 15, .int .i64 21] 99)) NoB := (((Kept.refl w NoB).alloc _).alloc _).alloc _
  have hS : Blk (((w.alloc (.cells #[.int .u32 a, .int .u32 b, .int .u32 c, .int .u32 d] 65)).alloc (.cells #[.int .u32 0, .int .u32 0, .int .u32 0, .int .u32 0] 65)).alloc (.cells #[.int .i64 7, .int .i64 12, .int .i64 17, .int .i64 22, .int .i64 5, .int .i64 9, .int .i64 14, .int .i64 20, .int .i64 4, .int .i64 11, .int .i64 16, .int .i64 23, .int .i64 6, .int .i64 10, .int .i64 15, .int .i64 21] 99)) w.heap.size 65 #[.int .u32 a, .int .u32 b, .int .u32 c, .int .u32 d] := ((Blk.new w _ _).alloc _).alloc _
  have hO : Blk (((w.alloc (.cells #[.int .u32 a, .int .u32 b, .int .u32 c, .int .u32 d] 65)).alloc (.cells #[.int .u32 0, .int .u32 0, .int .u32 0, .int .u32 0] 65)).alloc (.cells #[.int .i64 7, .int .i64 12, .int .i64 17, .int .i64 22, .int .i64 5, .int .i64 9, .int .i64 14, .int .i64 20, .int .i64 4, .int .i64 11, .int .i64 16, .int .i64 23, .int .i64 6, .int .i64 10, .int .i64 15, .int .i64 21] 99)) (w.heap.size + 1) 65 #[.int .u32 0, .int .u32 0, .int .u32 0, .int .u32 0] := by
    have := (Blk.new (w.alloc (.cells #[.int .u32 a, .int .u32 b, .int .u32 c, .int .u32 d] 65)) 65 #[.int .u32 0, .int .u32 0, .int .u32 0, .int .u32 0]).alloc (.cells #[.int .i64 7, .int .i64 12, .int .i64 17, .int .i64 22, .int .i64 5, .int .i64 9, .int .i64 14, .int .i64 20, .int .i64 4, .int .i64 11, .int .i64 16, .int .i64 23, .int .i64 6, .int .i64 10, .int .i64 15, .int .i64 21] 99)
    simpa using this
  have hT : Blk (((w.alloc (.cells #[.int .u32 a, .int .u32 b, .int .u32 c, .int .u32 d] 65)).alloc (.cells #[.int .u32 0, .int .u32 0, .int .u32 0, .int .u32 0] 65)).alloc (.cells #[.int .i64 7, .int .i64 12, .int .i64 17, .int .i64 22, .int .i64 5, .int .i64 9, .int .i64 14, .int .i64 20, .int .i64 4, .int .i64 11, .int .i64 16, .int .i64 23, .int .i64 6, .int .i64 10, .int .i64 15, .int .i64 21] 99)) (w.heap.size + 1 + 1) 99 #[.int .i64 7, .int .i64 12, .int .i64 17, .int .i64 22, .int .i64 5, .int .i64 9, .int .i64 14, .int .i64 20, .int .i64 4, .int .i64 11, .int .i64 16, .int .i64 23, .int .i64 6, .int .i64 10, .int .i64 15, .int .i64 21] := by
    have := Blk.new ((w.alloc (.cells #[.int .u32 a, .int .u32 b, .int .u32 c, .int .u32 d] 65)).alloc (.cells #[.int .u32 0, .int .u32 0, .int .u32 0, .int .u32 0] 65)) 99 #[.int .i64 7, .int .i64 12, .int .i64 17, .int .i64 22, .int .i64 5, .int .i64 9, .int .i64 14, .int .i64 20, .int .i64 4, .int .i64 11, .int .i64 16, .int .i64 23, .int .i64 6, .int .i64 10, .int .i64 15, .int .i64 21]
    simpa using this
  generalize ((w.alloc (.cells #[.int .u32 a, .int .u32 b, .int .u32 c, .int .u32 d] 65)).alloc (.cells #[.int .u32 0, .int .u32 0, .int .u32 0, .int .u32 0] 65)).alloc (.cells #[.int .i64 7, .int .i64 12, .int .i64 17, .int .i64 22, .int .i64 5, .int .i64 9, .int .i64 14, .int .i64 20, .int .i64 4, .int .i64 11, .int .i64 16, .int .i64 23, .int .i64 6, .int .i64 10, .int .i64 15, .int .i64 21] 99) = W at *

  have cs0 : W.cell? ⟨w.heap.size, 0, none⟩ = some (.int .u32 a) := hS.cell 0
  have cs1 : W.cell? ⟨w.heap.size, 1, none⟩ = some (.int .u32 b) := hS.cell 1
  have cs2 : W.cell? ⟨w.heap.size, 2, none⟩ = some (.int .u32 c) := hS.cell 2
  have cs3 : W.cell? ⟨w.heap.size, 3, none⟩ = some (.int .u32 d) := hS.cell 3
  have co0 : W.cell? ⟨w.heap.size + 1, 0, none⟩ = some (.int .u32 0) := hO.cell 0
  have fo0 := hO.frozen 0
  have co1 : W.cell? ⟨w.heap.size + 1, 1, none⟩ = some (.int .u32 0) := hO.cell 1
  have fo1 := hO.frozen 1
  have co2 : W.cell? ⟨w.heap.size + 1, 2, none⟩ = some (.int .u32 0) := hO.cell 2
  have fo2 := hO.frozen 2
  have co3 : W.cell? ⟨w.heap.size + 1, 3, none⟩ = some (.int .u32 0) := hO.cell 3
  have fo3 := hO.frozen 3
  have ct : W.cell? ⟨w.heap.size + 1 + 1, 0 + R, none⟩ = some (.int .i64 (K : Int)) := by
    rw [hT.cell]
    have : (#[.int .i64 7, .int .i64 12, .int .i64 17, .int .i64 22, .int .i64 5, .int .i64 9, .int .i64 14, .int .i64 20, .int .i64 4, .int .i64 11, .int .i64 16, .int .i64 23, .int .i64 6, .int .i64 10, .int .i64 15, .int .i64 21] : Array Value) = (turnN.map fun n => Value.int .i64 ((n : Nat) : Int)).toArray := rfl
    rw [this, List.getElem?_toArray, List.getElem?_map, HTU.out]
    rfl
  have cm := hk3.cell hm (fun x => x)
  have hOl := hO.lt
  have HK3 := Lib.hid hk3
  have HO := Lib.hid hO
  clear hk3 hS hO hT hm
  obtain ⟨gs, hgs⟩ : ∃ g, w.heap.size = g := ⟨_, rfl⟩
  obtain ⟨go', hgo⟩ : ∃ g, gs + 1 = g := ⟨_, rfl⟩
  obtain ⟨gt, hgt⟩ : ∃ g, go' + 1 = g := ⟨_, rfl⟩
  have hgol : w.heap.size ≤ go' := by omega
  have HGO := Lib.hid hgol
  have hE : go' = w.heap.size + 1 := by omega
  rw [← hE] at HO hOl co0 co1 co2 co3 fo0 fo1 fo2 fo3 ct ⊢
  rw [hgt] at ct ⊢
  rw [hgs] at cs0 cs1 cs2 cs3 ⊢
  clear hgs hgo hgt hE hgol
  go_wp2_with fail
  go_quiet (fail)
  go_upto_region 13 with (fail)
  have HK4 := Lib.hid (HK3.out.drewN nq)
  have HO4 := Lib.hid (HO.out.drewN nq)
  have cm4 : (W.drewN nq).cell? ⟨gm, G, none⟩ = some (.int .u32 mg) := cm
  have ct4 : (W.drewN nq).cell? ⟨gt, R, none⟩ = some (.int .i64 (K : Int)) := by have := ct; rwa [Nat.zero_add] at this
  clear HK3 HO cm ct cs0 cs1 cs2 cs3 co0 co1 co2 co3 fo0 fo1 fo2 fo3 hOl h1 h3 h2
  generalize W.drewN nq = W2 at *
  have hs1' : (a + f) % 4294967296 = s1 := by rw [← hs1, IntKind.wrap_u32']
  have hs2' : (s1 + sn) % 4294967296 = s2 := by rw [← hs2, IntKind.wrap_u32']
  have hs3' : (s2 + mg) % 4294967296 = s3 := by rw [← hs3, IntKind.wrap_u32']
  have hnb' : (b + rt) % 4294967296 = nb := by rw [← hnb, IntKind.wrap_u32']
  have tG : (G : Int) < 16 := by omega
  go_quiet (exact Calls.quiet_of_same ((HSN.out _ (HK4.out.drewN _)).mono fun _ _ h => ⟨h.1, h.2.symm⟩))
  go_wp2_with fail
  refine (HRT.out _).mono ?_
  rintro en _ ⟨rfl, rfl⟩
  have co0 : (W2.drewN nq).cell? ⟨go', 0, none⟩ = some (.int .u32 0) := HO4.out.cell 0
  have co1 : (W2.drewN nq).cell? ⟨go', 1, none⟩ = some (.int .u32 0) := HO4.out.cell 1
  have co2 : (W2.drewN nq).cell? ⟨go', 2, none⟩ = some (.int .u32 0) := HO4.out.cell 2
  have co3 : (W2.drewN nq).cell? ⟨go', 3, none⟩ = some (.int .u32 0) := HO4.out.cell 3
  have fo0 : (W2.drewN nq).frozen? ⟨go', 0, none⟩ = false := HO4.out.frozen 0
  have fo1 : (W2.drewN nq).frozen? ⟨go', 1, none⟩ = false := HO4.out.frozen 1
  have fo2 : (W2.drewN nq).frozen? ⟨go', 2, none⟩ = false := HO4.out.frozen 2
  have fo3 : (W2.drewN nq).frozen? ⟨go', 3, none⟩ = false := HO4.out.frozen 3
  have hOl : go' < (W2.drewN nq).heap.size := HO4.out.lt
  go_wp2_with fail
  refine bodyPost_ret (results_cell_row rfl _ _ go' 65 _ (0, 0) _ rfl (blk4 (HO4.out.drewN nq) d nb b c) Tryd.underlying65 rfl (by kernel_rfl)) rfl ?_
  exact ⟨rfl, kept4 (HK4.out.drewN nq) HGO.out _ _ _ _⟩
end Go.Proofs.YthnebhnlkjkcmaaDoor
