/- A block is added. -/
import Derived.Test.YthnebhnlkjkcmaaDoorStep
import Derived.Test.YthnebhnlkjkcmaaDoorMdW
set_option linter.unusedVariables false
set_option linter.unusedSimpArgs false
namespace Go.Proofs.YthnebhnlkjkcmaaDoor
open Go.RowKit

theorem far4 {w : World} {g h : Nat} {t : TypeId} {cs : Array Value} (hb : Blk w g t cs) (hne : g ≠ h) (a' b' c' d' : Value) :
    Blk ((((w.setCell ⟨h, 0, none⟩ a').setCell ⟨h, 1, none⟩ b').setCell ⟨h, 2, none⟩ c').setCell ⟨h, 3, none⟩ d') g t cs :=
  (((hb.far hne _).far hne _).far hne _).far hne _
def cS (s : S4) : Array Value := #[.int .u32 (U s.a), .int .u32 (U s.b), .int .u32 (U s.c), .int .u32 (U s.d)]
def AdS2 (w : World) (gm g8 g4 g2 : Nat) (l : List UInt8) (c4 c2 : Array Value) (s : S4) (gk : Nat) (v33 : Value) (wr : World) : Prop :=
  ∃ i, i ≤ 64 ∧ gk = 64 - i ∧ v33 = .int .i64 (i : Int) ∧ Blk wr g8 65 (cS (runP (mW l) s i)) ∧ Blk wr gm 91 (mCells l 64) ∧ Blk wr g4 65 c4 ∧ Blk wr g2 65 c2 ∧ Kept w wr NoB
/-- The sum, i words of it. -/
def sumI (x s : S4) (i : Nat) : S4 := ⟨if 0 < i then x.a + s.a else x.a, if 1 < i then x.b + s.b else x.b, if 2 < i then x.c + s.c else x.c, if 3 < i then x.d + s.d else x.d⟩
def AdS3 (w : World) (g8 g4 g2 : Nat) (c4 c2 : Array Value) (x s : S4) (gk : Nat) (v40 : Value) (wr : World) : Prop :=
  ∃ i, i ≤ 4 ∧ gk = 4 - i ∧ v40 = .int .i64 (i : Int) ∧ Blk wr g8 65 (cS (sumI x s i)) ∧ Blk wr g4 65 c4 ∧ Blk wr g2 65 c2 ∧ Kept w wr NoB
theorem sumI_step (x s : S4) (i : Nat) (hi : i < 4) : ∃ p q, (cS (sumI x s i))[i]? = some (.int .u32 (U p)) ∧ (cS s)[i]? = some (.int .u32 (U q)) ∧ (cS (sumI x s i)).setIfInBounds i (.int .u32 (U (p + q))) = cS (sumI x s (i + 1)) := by
  rcases i with _ | _ | _ | _ | i
  · exact ⟨x.a, s.a, rfl, rfl, rfl⟩
  · exact ⟨x.b, s.b, rfl, rfl, rfl⟩
  · exact ⟨x.c, s.c, rfl, rfl, rfl⟩
  · exact ⟨x.d, s.d, rfl, rfl, rfl⟩
  · omega
def AdS1 (w : World) (gm g4 g2 : Nat) (l : List UInt8) (c4 c2 : Array Value) (gk : Nat) (v14 : Value) (wr : World) : Prop :=
  ∃ i, i ≤ 64 ∧ gk = 64 - i ∧ v14 = .int .i64 (i : Int) ∧ Blk wr gm 91 (mCells l i) ∧ Blk wr g4 65 c4 ∧ Blk wr g2 65 c2 ∧ Kept w wr NoB
set_option maxHeartbeats 8000000 in
set_option maxRecDepth 100000 in
theorem add_calls (w : World) (s : S4) (S : Nat → Prop) (A : Option Addr) (n c : Nat) (L : List UInt8) (hR : Reads w S A n (b8s L)) (hn : 64 ≤ n) (hnc : n ≤ c) (hcb : c ≤ 9223372036854775807) (hC : SinC w) :
    Calls Tryd.prog 47 #[vS4 s, .slice A n c] w fun en w' => en = .returned (vS4 (addP (mW (L.take 64)) s)) ∧ Kept w w' NoB := by
  obtain ⟨ad, rfl, _, hadl, hcell⟩ := hR.2 (by omega)
  have hLn : L.length = n := by have := hR.1; rwa [b8s_length] at this
  obtain ⟨a, b, cc, d⟩ := s
  have HCELL := Lib.hid hcell
  have HC := Lib.hid hC
  have HLN := Lib.hid hLn
  clear hcell hC hR hLn
  obtain ⟨l, hl⟩ : ∃ l, L.take 64 = l := ⟨_, rfl⟩
  have hl64 : l.length = 64 := by rw [← hl, List.length_take, HLN.out]; omega
  have hlc : ∀ i, (h : i < 64) → w.cell? (ad.add i) = some (.int .u8 ((l.getD i 0).toNat : Int)) := fun i h => by
    refine HCELL.out i _ ?_
    have hi : i < L.length := by rw [HLN.out]; omega
    rw [b8s_at L i hi, ← hl, List.getD_eq_getElem?_getD, List.getElem?_take_of_lt h, List.getElem?_eq_getElem hi]
    rfl
  rw [hl]
  have HLC := Lib.hid hlc
  clear hlc hl
  unfold vS4
  simp only
  have t64 : (64 : Int) ≤ (c : Int) := by omega
  have t640 : (0 : Int) ≤ (c : Int) := by omega
  have t64n : 64 ≤ c := by omega
  go_enter Tryd.func47, Tryd.ntmps47
  go_wp2_with fail
  have hk3 : Kept w (((w.alloc (.cells #[.int .u32 (U a), .int .u32 (U b), .int .u32 (U cc), .int .u32 (U d)] 65)).alloc (.cells #[.int .u32 0, .int .u32 0, .int .u32 0, .int .u32 0] 65)).alloc (.cells #[.int .u32 0, .int .u32 0, .int .u32 0, .int .u32 0, .int .u32 0, .int .u32 0, .int .u32 0, .int .u32 0, .int .u32 0, .int .u32 0, .int .u32 0, .int .u32 0, .int .u32 0, .int .u32 0, .int .u32 0, .int .u32 0] 91)) NoB := (((Kept.refl w NoB).alloc _).alloc _).alloc _
  have h2 : Blk (((w.alloc (.cells #[.int .u32 (U a), .int .u32 (U b), .int .u32 (U cc), .int .u32 (U d)] 65)).alloc (.cells #[.int .u32 0, .int .u32 0, .int .u32 0, .int .u32 0] 65)).alloc (.cells #[.int .u32 0, .int .u32 0, .int .u32 0, .int .u32 0, .int .u32 0, .int .u32 0, .int .u32 0, .int .u32 0, .int .u32 0, .int .u32 0, .int .u32 0, .int .u32 0, .int .u32 0, .int .u32 0, .int .u32 0, .int .u32 0] 91)) w.heap.size 65 #[.int .u32 (U a), .int .u32 (U b), .int .u32 (U cc), .int .u32 (U d)] := ((Blk.new w _ _).alloc _).alloc _
  have h4 : Blk (((w.alloc (.cells #[.int .u32 (U a), .int .u32 (U b), .int .u32 (U cc), .int .u32 (U d)] 65)).alloc (.cells #[.int .u32 0, .int .u32 0, .int .u32 0, .int .u32 0] 65)).alloc (.cells #[.int .u32 0, .int .u32 0, .int .u32 0, .int .u32 0, .int .u32 0, .int .u32 0, .int .u32 0, .int .u32 0, .int .u32 0, .int .u32 0, .int .u32 0, .int .u32 0, .int .u32 0, .int .u32 0, .int .u32 0, .int .u32 0] 91)) (w.heap.size + 1) 65 #[.int .u32 0, .int .u32 0, .int .u32 0, .int .u32 0] := by
    have := (Blk.new (w.alloc (.cells #[.int .u32 (U a), .int .u32 (U b), .int .u32 (U cc), .int .u32 (U d)] 65)) 65 #[.int .u32 0, .int .u32 0, .int .u32 0, .int .u32 0]).alloc (.cells #[.int .u32 0, .int .u32 0, .int .u32 0, .int .u32 0, .int .u32 0, .int .u32 0, .int .u32 0, .int .u32 0, .int .u32 0, .int .u32 0, .int .u32 0, .int .u32 0, .int .u32 0, .int .u32 0, .int .u32 0, .int .u32 0] 91)
    simpa using this
  have hM : Blk (((w.alloc (.cells #[.int .u32 (U a), .int .u32 (U b), .int .u32 (U cc), .int .u32 (U d)] 65)).alloc (.cells #[.int .u32 0, .int .u32 0, .int .u32 0, .int .u32 0] 65)).alloc (.cells #[.int .u32 0, .int .u32 0, .int .u32 0, .int .u32 0, .int .u32 0, .int .u32 0, .int .u32 0, .int .u32 0, .int .u32 0, .int .u32 0, .int .u32 0, .int .u32 0, .int .u32 0, .int .u32 0, .int .u32 0, .int .u32 0] 91)) (w.heap.size + 1 + 1) 91 #[.int .u32 0, .int .u32 0, .int .u32 0, .int .u32 0, .int .u32 0, .int .u32 0, .int .u32 0, .int .u32 0, .int .u32 0, .int .u32 0, .int .u32 0, .int .u32 0, .int .u32 0, .int .u32 0, .int .u32 0, .int .u32 0] := by
    have := Blk.new ((w.alloc (.cells #[.int .u32 (U a), .int .u32 (U b), .int .u32 (U cc), .int .u32 (U d)] 65)).alloc (.cells #[.int .u32 0, .int .u32 0, .int .u32 0, .int .u32 0] 65)) 91 #[.int .u32 0, .int .u32 0, .int .u32 0, .int .u32 0, .int .u32 0, .int .u32 0, .int .u32 0, .int .u32 0, .int .u32 0, .int .u32 0, .int .u32 0, .int .u32 0, .int .u32 0, .int .u32 0, .int .u32 0, .int .u32 0]
    simpa using this
  generalize ((w.alloc (.cells #[.int .u32 (U a), .int .u32 (U b), .int .u32 (U cc), .int .u32 (U d)] 65)).alloc (.cells #[.int .u32 0, .int .u32 0, .int .u32 0, .int .u32 0] 65)).alloc (.cells #[.int .u32 0, .int .u32 0, .int .u32 0, .int .u32 0, .int .u32 0, .int .u32 0, .int .u32 0, .int .u32 0, .int .u32 0, .int .u32 0, .int .u32 0, .int .u32 0, .int .u32 0, .int .u32 0, .int .u32 0, .int .u32 0] 91) = W at *
  have hmc0 : (#[.int .u32 0, .int .u32 0, .int .u32 0, .int .u32 0, .int .u32 0, .int .u32 0, .int .u32 0, .int .u32 0, .int .u32 0, .int .u32 0, .int .u32 0, .int .u32 0, .int .u32 0, .int .u32 0, .int .u32 0, .int .u32 0] : Array Value) = mCells l 0 := by
    unfold mCells
    simp only [mI_zero]
    rfl
  rw [hmc0] at hM
  obtain ⟨gm, hgm⟩ : ∃ g, w.heap.size + 1 + 1 = g := ⟨_, rfl⟩
  obtain ⟨g4, hg4⟩ : ∃ g, w.heap.size + 1 = g := ⟨_, rfl⟩
  have hgml : w.heap.size ≤ gm := by omega
  have hg4l : w.heap.size ≤ g4 := by omega
  have hm4 : g4 ≠ gm := by omega
  have hm2 : w.heap.size ≠ gm := by omega
  have h24 : w.heap.size ≠ g4 := by omega
  rw [hgm] at hM ⊢
  rw [hg4] at h4 ⊢
  obtain ⟨g2, hg2⟩ : ∃ g, w.heap.size = g := ⟨_, rfl⟩
  rw [hg2] at h2 hm2 h24 hgml hg4l ⊢
  have HG2 := Lib.hid hg2
  have HK3 := Lib.hid hk3
  have HH2 := Lib.hid h2
  have HH4 := Lib.hid h4
  have HHM := Lib.hid hM
  clear hk3 h2 h4 hM hmc0 hgm hg4 hg2
  go_loopg [6, 7, 14] 64 (fun gk _ _ v14 wr => AdS1 w gm g4 g2 l #[.int .u32 0, .int .u32 0, .int .u32 0, .int .u32 0] #[.int .u32 (U a), .int .u32 (U b), .int .u32 (U cc), .int .u32 (U d)] gk v14 wr)
  case atStart => exact ⟨0, Nat.zero_le _, rfl, rfl, HHM.out, HH4.out, HH2.out, HK3.out⟩
  case round =>
    obtain ⟨i, hi, hgk, rfl, hbm, hb4, hb2, hk⟩ := hrel
    have HG := Lib.hid hgk
    have HBM := Lib.hid hbm
    have HB4 := Lib.hid hb4
    have HB2 := Lib.hid hb2
    have HK := Lib.hid hk
    clear hgk hbm hb4 hb2 hk
    rcases Nat.lt_or_ge i 64 with hlt | hge
    · obtain ⟨q, hq⟩ : ∃ q, i / 4 = q := ⟨_, rfl⟩
      obtain ⟨r, hr⟩ : ∃ r, i % 4 = r := ⟨_, rfl⟩
      have hqi : (i : Int) / 4 = (q : Int) := by omega
      have hri : (i : Int) % 4 = (r : Int) := by omega
      have hq16 : q < 16 := by omega
      have hr4 : r < 4 := by omega
      have hcb := HK.out.cell (HLC.out i hlt) (fun x => x)
      have hcm : wr.cell? ⟨gm, q, none⟩ = some (.int .u32 (U (mI l i q))) := by rw [HBM.out.cell]; exact mCells_at l i q hq16
      have hfm := HBM.out.frozen q
      have hgl := HBM.out.lt
      have hset := HBM.out.set_ q (.int .u32 (U (mI l i q ||| byW (l.getD i 0) r)))
      rw [← hq, ← hr, mCells_set l i hlt, hq, hr] at hset
      have hby := byW_U (l.getD i 0) r hr4
      have hor := or_U (mI l i q) (byW (l.getD i 0) r)
      have hxb : (l.getD i 0).toNat < 256 := UInt8.toNat_lt _
      obtain ⟨x, hx⟩ : ∃ x : Nat, (l.getD i 0).toNat = x := ⟨_, rfl⟩
      rw [hx] at hcb hby hxb
      obtain ⟨o1, ho1⟩ : ∃ o, U (mI l i q) = o := ⟨_, rfl⟩
      obtain ⟨o2, ho2⟩ : ∃ o, U (byW (l.getD i 0) r) = o := ⟨_, rfl⟩
      obtain ⟨o3, ho3⟩ : ∃ o, U (mI l i q ||| byW (l.getD i 0) r) = o := ⟨_, rfl⟩
      rw [ho1] at hcm hor
      rw [ho2] at hby hor
      rw [ho3] at hor hset
      have hby' := hby.symm
      have HST := Lib.hid hset
      have ti : (i : Int) < 64 := by omega
      clear hset hq hr hx ho1 ho2 ho3 hby
      go_wp2_with fail
      go_region
      go_wp2_with fail
      go_roundg (64 - (i + 1))
      case measure => have := HG.out; omega
      case rel => exact ⟨i + 1, hlt, rfl, by go_num, HST.out.drew, (HB4.out.far hm4 _).drew, (HB2.out.far hm2 _).drew, (HK.out.setCell (.inr (by rw [HG2.out]; exact hgml)) _).drew⟩
    · obtain rfl : i = 64 := by omega
      have c20 : wr.cell? ⟨g2, 0, none⟩ = some (.int .u32 (U a)) := HB2.out.cell 0
      have c21 : wr.cell? ⟨g2, 1, none⟩ = some (.int .u32 (U b)) := HB2.out.cell 1
      have c22 : wr.cell? ⟨g2, 2, none⟩ = some (.int .u32 (U cc)) := HB2.out.cell 2
      have c23 : wr.cell? ⟨g2, 3, none⟩ = some (.int .u32 (U d)) := HB2.out.cell 3
      have tn : ¬ ((64 : Int) < 64) := by omega
      go_wp2_with fail
      have HK5 := Lib.hid (HK.out.alloc (.cells #[.int .u32 (U a), .int .u32 (U b), .int .u32 (U cc), .int .u32 (U d)] 65))
      have HM5 := Lib.hid (HBM.out.alloc (.cells #[.int .u32 (U a), .int .u32 (U b), .int .u32 (U cc), .int .u32 (U d)] 65))
      have H45 := Lib.hid (HB4.out.alloc (.cells #[.int .u32 (U a), .int .u32 (U b), .int .u32 (U cc), .int .u32 (U d)] 65))
      have H25 := Lib.hid (HB2.out.alloc (.cells #[.int .u32 (U a), .int .u32 (U b), .int .u32 (U cc), .int .u32 (U d)] 65))
      have H85 := Lib.hid (Blk.new wr 65 #[.int .u32 (U a), .int .u32 (U b), .int .u32 (U cc), .int .u32 (U d)])
      have hm8 : gm < wr.heap.size := HBM.out.lt
      have h48 : g4 < wr.heap.size := HB4.out.lt
      have h28 : g2 < wr.heap.size := HB2.out.lt
      generalize wr.alloc (.cells #[.int .u32 (U a), .int .u32 (U b), .int .u32 (U cc), .int .u32 (U d)] 65) = W5 at *
      obtain ⟨g8, hg8⟩ : ∃ g, wr.heap.size = g := ⟨_, rfl⟩
      rw [hg8] at H85 hm8 h48 h28 ⊢
      clear hg8 c20 c21 c22 c23
      go_loopg [9, 33] 64 (fun gk _ v33 wr => AdS2 w gm g8 g4 g2 l #[.int .u32 0, .int .u32 0, .int .u32 0, .int .u32 0] #[.int .u32 (U a), .int .u32 (U b), .int .u32 (U cc), .int .u32 (U d)] ⟨a, b, cc, d⟩ gk v33 wr)
      case atStart => exact ⟨0, Nat.zero_le _, rfl, rfl, H85.out, HM5.out, H45.out, H25.out, HK5.out⟩
      case round =>
        obtain ⟨i, hi, hgk, rfl, hb8, hbm, hb4, hb2, hk⟩ := hrel
        have HG := Lib.hid hgk
        have HQ8 := Lib.hid hb8
        have HQM := Lib.hid hbm
        have HQ4 := Lib.hid hb4
        have HQ2 := Lib.hid hb2
        have HQK := Lib.hid hk
        clear hgk hb8 hbm hb4 hb2 hk
        rcases Nat.lt_or_ge i 64 with hlt | hge
        · have hst := step_calls wr i hlt (runP (mW l) ⟨a, b, cc, d⟩ i) (mW l) gm (fun g hg => by rw [HQM.out.cell, mCells_at l 64 g hg, mI_all l g hg]) (HC.out.kept0 HQK.out)
          have hnx : runP (mW l) ⟨a, b, cc, d⟩ (i + 1) = stepP (mW l) i (runP (mW l) ⟨a, b, cc, d⟩ i) := rfl
          obtain ⟨x, hx⟩ : ∃ x, runP (mW l) ⟨a, b, cc, d⟩ i = x := ⟨_, rfl⟩
          rw [hx] at hst hnx HQ8
          obtain ⟨y, hy⟩ : ∃ y, stepP (mW l) i x = y := ⟨_, rfl⟩
          rw [hy] at hst hnx
          obtain ⟨x1, x2, x3, x4⟩ := x
          obtain ⟨y1, y2, y3, y4⟩ := y
          unfold vS4 at hst
          simp only at hst
          have c0 : wr.cell? ⟨g8, 0, none⟩ = some (.int .u32 (U x1)) := HQ8.out.cell 0
          have c1 : wr.cell? ⟨g8, 1, none⟩ = some (.int .u32 (U x2)) := HQ8.out.cell 1
          have c2 : wr.cell? ⟨g8, 2, none⟩ = some (.int .u32 (U x3)) := HQ8.out.cell 2
          have c3 : wr.cell? ⟨g8, 3, none⟩ = some (.int .u32 (U x4)) := HQ8.out.cell 3
          have ti : (i : Int) < 64 := by omega
          have HST := Lib.hid hst
          have HNX := Lib.hid hnx
          clear hst hnx hx hy
          go_wp2_with fail
          refine HST.out.mono ?_
          rintro en w6 ⟨rfl, hk6⟩
          have HR8 := Lib.hid (HQ8.out.kept0 hk6)
          have HRM := Lib.hid (HQM.out.kept0 hk6)
          have HR4 := Lib.hid (HQ4.out.kept0 hk6)
          have HR2 := Lib.hid (HQ2.out.kept0 hk6)
          have HRK := Lib.hid (HQK.out.trans' hk6)
          have d0 : w6.cell? ⟨g8, 0, none⟩ = some (.int .u32 (U x1)) := HR8.out.cell 0
          have d1 : w6.cell? ⟨g8, 1, none⟩ = some (.int .u32 (U x2)) := HR8.out.cell 1
          have d2 : w6.cell? ⟨g8, 2, none⟩ = some (.int .u32 (U x3)) := HR8.out.cell 2
          have d3 : w6.cell? ⟨g8, 3, none⟩ = some (.int .u32 (U x4)) := HR8.out.cell 3
          have f0 := HR8.out.frozen 0
          have f1 := HR8.out.frozen 1
          have f2 := HR8.out.frozen 2
          have f3 := HR8.out.frozen 3
          have hgl := HR8.out.lt
          clear hk6 c0 c1 c2 c3
          go_wp2_with fail
          go_roundg (64 - (i + 1))
          case measure => have := HG.out; omega
          case rel =>
            have e : w.heap.size ≤ g8 := by rw [HG2.out]; omega
            exact ⟨i + 1, hlt, rfl, by go_num, by rw [HNX.out]; exact blk4 HR8.out _ _ _ _, far4 HRM.out (by omega) _ _ _ _, far4 HR4.out (by omega) _ _ _ _, far4 HR2.out (by omega) _ _ _ _, kept4 HRK.out e _ _ _ _⟩
        · obtain rfl : i = 64 := by omega
          obtain ⟨x, hx⟩ : ∃ x, runP (mW l) ⟨a, b, cc, d⟩ 64 = x := ⟨_, rfl⟩
          have hres : addP (mW l) ⟨a, b, cc, d⟩ = sumS x ⟨a, b, cc, d⟩ := by rw [addP, hx]
          rw [hx] at HQ8
          have HRES := Lib.hid hres
          clear hres hx
          have tn2 : ¬ ((64 : Int) < 64) := by omega
          go_wp2_with fail
          go_loopg [10, 40] 4 (fun gk _ v40 wr => AdS3 w g8 g4 g2 #[.int .u32 0, .int .u32 0, .int .u32 0, .int .u32 0] #[.int .u32 (U a), .int .u32 (U b), .int .u32 (U cc), .int .u32 (U d)] x ⟨a, b, cc, d⟩ gk v40 wr)
          case atStart => exact ⟨0, Nat.zero_le _, rfl, rfl, HQ8.out, HQ4.out, HQ2.out, HQK.out⟩
          case round =>
            obtain ⟨i, hi, hgk, rfl, hb8, hb4, hb2, hk⟩ := hrel
            have HG := Lib.hid hgk
            have HP8 := Lib.hid hb8
            have HP4 := Lib.hid hb4
            have HP2 := Lib.hid hb2
            have HPK := Lib.hid hk
            clear hgk hb8 hb4 hb2 hk
            rcases Nat.lt_or_ge i 4 with hlt | hge
            · obtain ⟨p, q, h1, h2, h3⟩ := sumI_step x ⟨a, b, cc, d⟩ i hlt
              have c8 : wr.cell? ⟨g8, i, none⟩ = some (.int .u32 (U p)) := by rw [HP8.out.cell]; exact h1
              have c2 : wr.cell? ⟨g2, i, none⟩ = some (.int .u32 (U q)) := by rw [HP2.out.cell]; exact h2
              have f8 := HP8.out.frozen i
              have hgl := HP8.out.lt
              have hs := HP8.out.set_ i (.int .u32 (U (p + q)))
              rw [h3] at hs
              have hw := add_U p q
              obtain ⟨o1, ho1⟩ : ∃ o, U p = o := ⟨_, rfl⟩
              obtain ⟨o2, ho2⟩ : ∃ o, U q = o := ⟨_, rfl⟩
              obtain ⟨o3, ho3⟩ : ∃ o, U (p + q) = o := ⟨_, rfl⟩
              rw [ho1] at c8 hw
              rw [ho2] at c2 hw
              rw [ho3] at hs hw
              have hw' : (o1 + o2) % 4294967296 = o3 := by rw [← hw, IntKind.wrap_u32']
              have HS := Lib.hid hs
              have ti : (i : Int) < 4 := by omega
              clear h1 h2 h3 hs ho1 ho2 ho3
              go_wp2_with fail
              go_region
              go_wp2_with fail
              go_roundg (4 - (i + 1))
              case measure => have := HG.out; omega
              case rel =>
                have e : w.heap.size ≤ g8 := by rw [HG2.out]; omega
                exact ⟨i + 1, hlt, rfl, by go_num, HS.out.drew, (HP4.out.far (by show g4 ≠ g8; omega) _).drew, (HP2.out.far (by show g2 ≠ g8; omega) _).drew, (HPK.out.setCell (.inr e) _).drew⟩
            · obtain rfl : i = 4 := by omega
              rw [show sumI x ⟨a, b, cc, d⟩ 4 = sumS x ⟨a, b, cc, d⟩ from rfl] at HP8
              obtain ⟨y, hy⟩ : ∃ y, sumS x ⟨a, b, cc, d⟩ = y := ⟨_, rfl⟩
              rw [hy] at HP8 HRES
              obtain ⟨y1, y2, y3, y4⟩ := y
              have c0 : wr.cell? ⟨g8, 0, none⟩ = some (.int .u32 (U y1)) := HP8.out.cell 0
              have c1 : wr.cell? ⟨g8, 1, none⟩ = some (.int .u32 (U y2)) := HP8.out.cell 1
              have c2 : wr.cell? ⟨g8, 2, none⟩ = some (.int .u32 (U y3)) := HP8.out.cell 2
              have c3 : wr.cell? ⟨g8, 3, none⟩ = some (.int .u32 (U y4)) := HP8.out.cell 3
              have d0 : wr.cell? ⟨g4, 0, none⟩ = some (.int .u32 0) := HP4.out.cell 0
              have d1 : wr.cell? ⟨g4, 1, none⟩ = some (.int .u32 0) := HP4.out.cell 1
              have d2 : wr.cell? ⟨g4, 2, none⟩ = some (.int .u32 0) := HP4.out.cell 2
              have d3 : wr.cell? ⟨g4, 3, none⟩ = some (.int .u32 0) := HP4.out.cell 3
              have f0 := HP4.out.frozen 0
              have f1 := HP4.out.frozen 1
              have f2 := HP4.out.frozen 2
              have f3 := HP4.out.frozen 3
              have hgl := HP4.out.lt
              have tn3 : ¬ ((4 : Int) < 4) := by omega
              clear hy
              go_wp2_with fail
              refine bodyPost_ret (results_cell_row rfl _ _ g4 65 _ (0, 0) _ rfl (blk4 HP4.out (U y1) (U y2) (U y3) (U y4)) Tryd.underlying65 rfl (by kernel_rfl)) rfl ?_
              have e : w.heap.size ≤ g4 := by rw [HG2.out]; exact hg4l
              exact ⟨by rw [HRES.out], kept4 HPK.out e _ _ _ _⟩
end Go.Proofs.YthnebhnlkjkcmaaDoor
