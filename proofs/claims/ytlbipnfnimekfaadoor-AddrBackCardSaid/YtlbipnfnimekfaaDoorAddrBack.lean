/- AddrBack's walk. -/
import Derived.Test.YtlbipnfnimekfaaDoorAddrWrites
set_option linter.unusedVariables false
set_option linter.unusedSimpArgs false
namespace Go.Proofs.YtlbipnfnimekfaaDoor
open Go.RowKit Go.Shelf

def BkS (w : World) (gx ga : Nat) (X : Array Value) (m : List Int) (q : Int) (gk : Nat) (v9 : Value) (wr : World) : Prop :=
  ∃ i, i ≤ 4 ∧ gk = 4 - i ∧ v9 = .int .i64 (i : Int) ∧ Blk wr gx 29 X ∧ Blk wr ga 29 (arrI m q i) ∧ Kept w wr NoB
set_option maxHeartbeats 8000000 in
set_option maxRecDepth 100000 in
theorem back_law (w : World) (h0 h1 h2 h3 p : Int) (s t : List UInt8) (hs : s.length ≤ 140737488351232) (ht : t.length ≤ 140737488351232) (hL : LdT w) :
    Calls Tryd.prog 5 #[.agg #[.int .i64 h0, .int .i64 h1, .int .i64 h2, .int .i64 h3, .int .i64 p], .string (strB s), .string (strB t)] w fun en w' => en = .returned (.bool true) ∧ Below w.heap.size w w' := by
  obtain ⟨q, hq⟩ : ∃ q, 1 + (p % 1048576) % 65535 = q := ⟨_, rfl⟩
  have hq1 : 1 ≤ q := by omega
  have hq2 : q ≤ 65535 := by omega
  have hmk20 := mask20 p
  have hx : fineA ⟨h0 % 256, h1 % 256, h2 % 256, h3 % 256, q⟩ := by unfold fineA; simp only; omega
  have hx0 : fineA ⟨h0 % 256, h1 % 256, h2 % 256, h3 % 256, 0⟩ := by unfold fineA; simp only; omega
  have hok : okA ⟨h0 % 256, h1 % 256, h2 % 256, h3 % 256, q⟩ := by unfold okA okI; simp only; omega
  have hok0 : okA ⟨h0 % 256, h1 % 256, h2 % 256, h3 % 256, 0⟩ := by unfold okA okI; simp only; omega
  have hjl := join_len _ hok
  have hjl0 := join_len _ hok0
  have hA := keep_noDig s
  have hB := keep_noDig t
  have hAl := keep_len (fun c => !digC c) s
  have hBl := keep_len (fun c => !digC c) t
  have p1 := pasv_text (A := keepL (fun c => !digC c) s) (B := keepL (fun c => !digC c) t) hA (by intro c r h; exact hB c (by rw [h]; simp)) hx
  have p2 := pasv_text (A := []) (B := []) (by intro c hc; cases hc) (by intro c r h; cases h) hx0
  have p3 := pasv_big hx
  have p4 := pasv_long hx
  rw [List.nil_append, List.append_nil] at p2
  simp only at p1 p2
  rw [if_neg (by omega)] at p1
  rw [if_pos trivial] at p2
  have htc := fun W hp => text_calls W ⟨h0 % 256, h1 % 256, h2 % 256, h3 % 256, q⟩ hok hp
  have htc0 := fun W hp => text_calls W ⟨h0 % 256, h1 % 256, h2 % 256, h3 % 256, 0⟩ hok0 hp
  unfold adV at htc htc0
  simp only at htc htc0
  have hba := bare_calls w s hs
  have hbb := fun W => bare_calls W t ht
  have hba := fun W => bare_calls W s hs
  obtain ⟨A, hAe⟩ : ∃ a, keepL (fun c => !digC c) s = a := ⟨_, rfl⟩
  obtain ⟨B, hBe⟩ : ∃ a, keepL (fun c => !digC c) t = a := ⟨_, rfl⟩
  obtain ⟨TX, hTX⟩ : ∃ a, textL ⟨h0 % 256, h1 % 256, h2 % 256, h3 % 256, q⟩ = a := ⟨_, rfl⟩
  obtain ⟨TZ, hTZ⟩ : ∃ a, textL ⟨h0 % 256, h1 % 256, h2 % 256, h3 % 256, 0⟩ = a := ⟨_, rfl⟩
  simp only [hAe] at hba
  simp only [hBe] at hbb
  rw [hAe, hBe, hTX] at p1
  rw [hTZ] at p2 hjl0 htc0
  rw [hTX] at p3 p4 hjl htc
  rw [hAe] at hAl
  rw [hBe] at hBl
  obtain ⟨S1, hS1⟩ : ∃ a, A ++ (TX ++ B) = a := ⟨_, rfl⟩
  obtain ⟨S3, hS3⟩ : ∃ a, [50, 53, 54, 44] ++ TX = a := ⟨_, rfl⟩
  obtain ⟨S4, hS4⟩ : ∃ a, TX ++ [48, 48, 48, 48] = a := ⟨_, rfl⟩
  have hl1 : S1.length ≤ 600 := by rw [← hS1, List.length_append, List.length_append]; omega
  have hl3 : S3.length ≤ 210 := by rw [← hS3, List.length_append]; simp only [List.length_cons, List.length_nil]; omega
  have hl4 : S4.length ≤ 210 := by rw [← hS4, List.length_append]; simp only [List.length_cons, List.length_nil]; omega
  have e1 : strB A ++ strB TX = strB (A ++ TX) := dg_app A TX
  have e1l : (A ++ TX).length ≤ 400 := by rw [List.length_append]; omega
  have e2 : strB (A ++ TX) ++ strB B = strB S1 := by rw [dg_app, List.append_assoc, hS1]
  have e3 : (⟨#[50, 53, 54, 44]⟩ : ByteArray) ++ strB TX = strB S3 := by rw [← hS3]; exact dg_app [50, 53, 54, 44] TX
  have e4 : strB TX ++ (⟨#[48, 48, 48, 48]⟩ : ByteArray) = strB S4 := by rw [← hS4]; exact dg_app TX [48, 48, 48, 48]
  rw [hS1] at p1
  rw [hS3] at p3
  rw [hS4] at p4
  have hc1 := fun W hm he => pasv_calls W S1 (by omega) hm he
  have hc2 := fun W hm he => pasv_calls W TZ (by omega) hm he
  have hc3 := fun W hm he => pasv_calls W S3 (by omega) hm he
  have hc4 := fun W hm he => pasv_calls W S4 (by omega) hm he
  unfold PasvPost at hc1 hc2 hc3 hc4
  simp only [p1, show adR (some ⟨h0 % 256, h1 % 256, h2 % 256, h3 % 256, q⟩) = .tuple #[.agg #[.int .i64 (h0 % 256), .int .i64 (h1 % 256), .int .i64 (h2 % 256), .int .i64 (h3 % 256), .int .i64 (q)], .bool true] from rfl] at hc1
  simp only [p2, show adR none = .tuple #[.agg #[.int .i64 0, .int .i64 0, .int .i64 0, .int .i64 0, .int .i64 0], .bool false] from rfl] at hc2
  simp only [p3, show adR none = .tuple #[.agg #[.int .i64 0, .int .i64 0, .int .i64 0, .int .i64 0, .int .i64 0], .bool false] from rfl] at hc3
  simp only [p4, show adR none = .tuple #[.agg #[.int .i64 0, .int .i64 0, .int .i64 0, .int .i64 0, .int .i64 0], .bool false] from rfl] at hc4
  obtain ⟨l, hl⟩ : ∃ l, [h0, h1, h2, h3] = l := ⟨_, rfl⟩
  obtain ⟨m, hm⟩ : ∃ m, [h0 % 256, h1 % 256, h2 % 256, h3 % 256] = m := ⟨_, rfl⟩
  have hlm : m = l.map (· % 256) := by rw [← hl, ← hm]; rfl
  have hl4 : l.length = 4 := by rw [← hl]; rfl
  have ha4 : arrI m q 4 = #[.int .i64 (h0 % 256), .int .i64 (h1 % 256), .int .i64 (h2 % 256), .int .i64 (h3 % 256), .int .i64 (q)] := by rw [← hm]; rfl
  have ha0 : arrI m q 0 = #[.int .i64 0, .int .i64 0, .int .i64 0, .int .i64 0, .int .i64 q] := rfl
  have hcellF : ∀ (w' : World) g, Blk w' g 29 #[.int .i64 h0, .int .i64 h1, .int .i64 h2, .int .i64 h3, .int .i64 p] → ∀ i n, l[i]? = some n → w'.cell? ⟨g, i, none⟩ = some (.int .i64 n) := by
    intro w' g hB i n hi
    rw [hB.cell]
    subst hl
    rcases i with _ | _ | _ | _ | i
    · simp at hi; subst hi; rfl
    · simp at hi; subst hi; rfl
    · simp at hi; subst hi; rfl
    · simp at hi; subst hi; rfl
    · simp at hi
  have HTC := Lib.hid htc
  have HTZ := Lib.hid htc0
  have HC1 := Lib.hid hc1
  have HC2 := Lib.hid hc2
  have HC3 := Lib.hid hc3
  have HC4 := Lib.hid hc4
  have HBA' := Lib.hid hba
  have HBB' := Lib.hid hbb
  have HLM := Lib.hid hlm
  have HL4 := Lib.hid hl4
  have HA4 := Lib.hid ha4
  have HA0 := Lib.hid ha0
  have HCF := Lib.hid hcellF
  have HL := Lib.hid hL
  have HE1 := Lib.hid e1
  have HE2 := Lib.hid e2
  have HE3 := Lib.hid e3
  have HE4 := Lib.hid e4
  clear htc htc0 hc1 hc2 hc3 hc4 hba hbb hlm hl4 ha4 ha0 hcellF hL e1 e2 e3 e4 p1 p2 p3 p4 hS1 hS3 hS4 hAe hBe hTX hTZ hx hx0 hok hok0 hA hB hl hm
  go_enter Tryd.func5, Tryd.ntmps5
  go_wp2_with fail
  have HK0 := Lib.hid ((Kept.refl w NoB).alloc (.cells #[.int .i64 h0, .int .i64 h1, .int .i64 h2, .int .i64 h3, .int .i64 p] 29))
  have HX0 := Lib.hid (Blk.new w 29 #[.int .i64 h0, .int .i64 h1, .int .i64 h2, .int .i64 h3, .int .i64 p])
  generalize w.alloc (.cells #[.int .i64 h0, .int .i64 h1, .int .i64 h2, .int .i64 h3, .int .i64 p] 29) = W0 at *
  obtain ⟨gx, hgx⟩ : ∃ g, w.heap.size = g := ⟨_, rfl⟩
  rw [hgx] at HX0 ⊢
  have HGX := Lib.hid hgx
  clear hgx
  refine (shown_calls W0 (HL.out.kept0 HK0.out)).mono ?_
  rintro en w1 ⟨rfl, hk⟩
  have HK1 := Lib.hid (HK0.out.trans' hk)
  have HX1 := Lib.hid (HX0.out.kept0 hk)
  have cp : w1.cell? ⟨gx, 4, none⟩ = some (.int .i64 p) := HX1.out.cell 4
  clear hk
  go_wp2_with fail
  clear hq hmk20
  have HK2 := Lib.hid (HK1.out.alloc (.cells #[.int .i64 0, .int .i64 0, .int .i64 0, .int .i64 0, .int .i64 q] 29))
  have HX2 := Lib.hid (HX1.out.alloc (.cells #[.int .i64 0, .int .i64 0, .int .i64 0, .int .i64 0, .int .i64 q] 29))
  have HA2 := Lib.hid (Blk.new w1 29 #[.int .i64 0, .int .i64 0, .int .i64 0, .int .i64 0, .int .i64 q])
  have hsz : w.heap.size ≤ w1.heap.size := HK1.out.size
  have hgxl : gx < w1.heap.size := HX1.out.lt
  generalize w1.alloc (.cells #[.int .i64 0, .int .i64 0, .int .i64 0, .int .i64 0, .int .i64 q] 29) = W2 at *
  obtain ⟨ga, hga⟩ : ∃ g, w1.heap.size = g := ⟨_, rfl⟩
  rw [hga] at HA2 hsz hgxl ⊢
  clear hga cp
  have hne : gx ≠ ga := by omega
  go_loopg [9] 4 (fun gk v9 wr => BkS w gx ga #[.int .i64 h0, .int .i64 h1, .int .i64 h2, .int .i64 h3, .int .i64 p] m q gk v9 wr)
  case atStart => exact ⟨0, Nat.zero_le _, rfl, rfl, HX2.out, by rw [HA0.out]; exact HA2.out, HK2.out⟩
  case round =>
    obtain ⟨i, hi, hgk, rfl, hbx, hba, hk⟩ := hrel
    have HG := Lib.hid hgk
    have HBX := Lib.hid hbx
    have HBA := Lib.hid hba
    have HK := Lib.hid hk
    clear hgk hbx hba hk
    rcases Nat.lt_or_ge i 4 with hlt | hge
    · have hli : i < l.length := by rw [HL4.out]; exact hlt
      obtain ⟨n, hn⟩ : ∃ n, l[i]? = some n := ⟨_, List.getElem?_eq_getElem hli⟩
      have hmn : m[i]? = some (n % 256) := by rw [HLM.out, List.getElem?_map, hn]; rfl
      have hc : wr.cell? ⟨gx, i, none⟩ = some (.int .i64 n) := HCF.out _ _ HBX.out i n hn
      have hca : wr.cell? ⟨ga, i, none⟩ = some (.int .i64 ((if i < i then m.getD i 0 else 0))) := by
        rw [HBA.out.cell, arrI, List.getElem?_toArray, List.getElem?_append_left (by simp; exact hlt), List.getElem?_map, List.getElem?_range hlt]
        rfl
      have hfz := HBA.out.frozen i
      have hgl := HBA.out.lt
      have hset := HBA.out.set_ i (.int .i64 (n % 256))
      rw [arrI_set m q i hlt _ hmn] at hset
      have hmk := mask255 n
      have HST := Lib.hid hset
      clear hn hli hmn hset
      go_wp2_with fail
      go_roundg (4 - (i + 1))
      case measure => have := HG.out; omega
      case rel => exact ⟨i + 1, hlt, rfl, by go_num, HBX.out.far hne _, HST.out, HK.out.setCell (.inr hsz) _⟩
    · obtain rfl : i = 4 := by omega
      rw [HA4.out] at HBA
      go_wp2_with fail
      refine (HBA'.out _).mono ?_
      rintro en _ ⟨rfl, rfl⟩
      go_wp2_with fail
      refine (HBB'.out _).mono ?_
      rintro en _ ⟨rfl, rfl⟩
      have c0 : wr.cell? ⟨ga, 0, none⟩ = some (.int .i64 (h0 % 256)) := HBA.out.cell 0
      have c1 : wr.cell? ⟨ga, 1, none⟩ = some (.int .i64 (h1 % 256)) := HBA.out.cell 1
      have c2 : wr.cell? ⟨ga, 2, none⟩ = some (.int .i64 (h2 % 256)) := HBA.out.cell 2
      have c3 : wr.cell? ⟨ga, 3, none⟩ = some (.int .i64 (h3 % 256)) := HBA.out.cell 3
      have c4 : wr.cell? ⟨ga, 4, none⟩ = some (.int .i64 (q)) := HBA.out.cell 4
      go_wp2_with fail
      refine (HTC.out wr (HL.out.kept0 HK.out).p).mono ?_
      rintro en u1 ⟨rfl, hk⟩
      have HKu1 := Lib.hid (HK.out.trans' hk)
      have HBAu1 := Lib.hid (HBA.out.kept0 hk)
      clear hk
      have he1 := HE1.out
      have he2 := HE2.out
      go_wp2_with fail
      clear he1
      clear he2
      refine (HC1.out u1 (HL.out.kept0 HKu1.out).m (HL.out.kept0 HKu1.out).e).mono ?_
      rintro en v1 ⟨rfl, hk⟩
      have HKv1 := Lib.hid (HKu1.out.trans' hk)
      have HBAv1 := Lib.hid (HBAu1.out.kept0 hk)
      clear hk
      clear c0 c1 c2 c3 c4
      go_upto_region 10 with (fail)
      have HKY1b := Lib.hid (HKv1.out.alloc (.cells #[.int .i64 (h0 % 256), .int .i64 (h1 % 256), .int .i64 (h2 % 256), .int .i64 (h3 % 256), .int .i64 (q)] 29))
      have HBAv1Y1b := Lib.hid (HBAv1.out.alloc (.cells #[.int .i64 (h0 % 256), .int .i64 (h1 % 256), .int .i64 (h2 % 256), .int .i64 (h3 % 256), .int .i64 (q)] 29))
      have HNY1b := Lib.hid (Blk.new v1 29 #[.int .i64 (h0 % 256), .int .i64 (h1 % 256), .int .i64 (h2 % 256), .int .i64 (h3 % 256), .int .i64 (q)])
      have hsY1b : w.heap.size ≤ v1.heap.size := HKv1.out.size
      have hlgaY1b : ga < v1.heap.size := HBAv1.out.lt
      generalize v1.alloc (.cells #[.int .i64 (h0 % 256), .int .i64 (h1 % 256), .int .i64 (h2 % 256), .int .i64 (h3 % 256), .int .i64 (q)] 29) = Y1b at *
      obtain ⟨gY1b, hg⟩ : ∃ g, v1.heap.size = g := ⟨_, rfl⟩
      rw [hg] at HNY1b hsY1b hlgaY1b ⊢
      clear hg
      have c0 : Y1b.cell? ⟨ga, 0, none⟩ = some (.int .i64 (h0 % 256)) := HBAv1Y1b.out.cell 0
      have c1 : Y1b.cell? ⟨ga, 1, none⟩ = some (.int .i64 (h1 % 256)) := HBAv1Y1b.out.cell 1
      have c2 : Y1b.cell? ⟨ga, 2, none⟩ = some (.int .i64 (h2 % 256)) := HBAv1Y1b.out.cell 2
      have c3 : Y1b.cell? ⟨ga, 3, none⟩ = some (.int .i64 (h3 % 256)) := HBAv1Y1b.out.cell 3
      have c4 : Y1b.cell? ⟨ga, 4, none⟩ = some (.int .i64 (q)) := HBAv1Y1b.out.cell 4
      go_upto_region 11 with (fail)
      clear c0 c1 c2 c3 c4
      have HKY2z := Lib.hid (HKY1b.out.alloc (.cells #[.int .i64 (h0 % 256), .int .i64 (h1 % 256), .int .i64 (h2 % 256), .int .i64 (h3 % 256), .int .i64 (q)] 29))
      have HBAv1Y1bY2z := Lib.hid (HBAv1Y1b.out.alloc (.cells #[.int .i64 (h0 % 256), .int .i64 (h1 % 256), .int .i64 (h2 % 256), .int .i64 (h3 % 256), .int .i64 (q)] 29))
      have HNY1bY2z := Lib.hid (HNY1b.out.alloc (.cells #[.int .i64 (h0 % 256), .int .i64 (h1 % 256), .int .i64 (h2 % 256), .int .i64 (h3 % 256), .int .i64 (q)] 29))
      have HNY2z := Lib.hid (Blk.new Y1b 29 #[.int .i64 (h0 % 256), .int .i64 (h1 % 256), .int .i64 (h2 % 256), .int .i64 (h3 % 256), .int .i64 (q)])
      have hsY2z : w.heap.size ≤ Y1b.heap.size := HKY1b.out.size
      have hlgaY2z : ga < Y1b.heap.size := HBAv1Y1b.out.lt
      have hlgY1bY2z : gY1b < Y1b.heap.size := HNY1b.out.lt
      generalize Y1b.alloc (.cells #[.int .i64 (h0 % 256), .int .i64 (h1 % 256), .int .i64 (h2 % 256), .int .i64 (h3 % 256), .int .i64 (q)] 29) = Y2z at *
      obtain ⟨gY2z, hg⟩ : ∃ g, Y1b.heap.size = g := ⟨_, rfl⟩
      rw [hg] at HNY2z hsY2z hlgaY2z hlgY1bY2z ⊢
      clear hg
      have c0 : Y2z.cell? ⟨gY2z, 0, none⟩ = some (.int .i64 (h0 % 256)) := HNY2z.out.cell 0
      have c1 : Y2z.cell? ⟨gY2z, 1, none⟩ = some (.int .i64 (h1 % 256)) := HNY2z.out.cell 1
      have c2 : Y2z.cell? ⟨gY2z, 2, none⟩ = some (.int .i64 (h2 % 256)) := HNY2z.out.cell 2
      have c3 : Y2z.cell? ⟨gY2z, 3, none⟩ = some (.int .i64 (h3 % 256)) := HNY2z.out.cell 3
      have c4 : Y2z.cell? ⟨gY2z, 4, none⟩ = some (.int .i64 (q)) := HNY2z.out.cell 4
      have fz := HNY2z.out.frozen 4
      have lz := HNY2z.out.lt
      go_upto_region 12 with (fail)
      clear c0 c1 c2 c3 c4 fz lz
      have HKs := Lib.hid (HKY2z.out.setCell (p := ⟨gY2z, 4, none⟩) (.inr hsY2z) (.int .i64 0))
      have HSga := Lib.hid (HBAv1Y1bY2z.out.far (p := ⟨gY2z, 4, none⟩) (by show ga ≠ gY2z; omega) (.int .i64 0))
      have HSgY1b := Lib.hid (HNY1bY2z.out.far (p := ⟨gY2z, 4, none⟩) (by show gY1b ≠ gY2z; omega) (.int .i64 0))
      have HSz : Hid (Blk (Y2z.setCell ⟨gY2z, 4, none⟩ (.int .i64 0)) gY2z 29 #[.int .i64 (h0 % 256), .int .i64 (h1 % 256), .int .i64 (h2 % 256), .int .i64 (h3 % 256), .int .i64 0]) := Lib.hid (HNY2z.out.set_ 4 (.int .i64 0))
      generalize (Y2z.setCell ⟨gY2z, 4, none⟩ (.int .i64 0)) = Ws at *
      have c0 : Ws.cell? ⟨gY2z, 0, none⟩ = some (.int .i64 (h0 % 256)) := HSz.out.cell 0
      have c1 : Ws.cell? ⟨gY2z, 1, none⟩ = some (.int .i64 (h1 % 256)) := HSz.out.cell 1
      have c2 : Ws.cell? ⟨gY2z, 2, none⟩ = some (.int .i64 (h2 % 256)) := HSz.out.cell 2
      have c3 : Ws.cell? ⟨gY2z, 3, none⟩ = some (.int .i64 (h3 % 256)) := HSz.out.cell 3
      have c4 : Ws.cell? ⟨gY2z, 4, none⟩ = some (.int .i64 (0)) := HSz.out.cell 4
      go_wp2_with fail
      refine (HTZ.out Ws (HL.out.kept0 HKs.out).p).mono ?_
      rintro en u3 ⟨rfl, hk⟩
      have HKu3 := Lib.hid (HKs.out.trans' hk)
      have HSgau3 := Lib.hid (HSga.out.kept0 hk)
      have HSgY1bu3 := Lib.hid (HSgY1b.out.kept0 hk)
      have HSzu3 := Lib.hid (HSz.out.kept0 hk)
      clear hk
      go_wp2_with fail
      refine (HC2.out u3 (HL.out.kept0 HKu3.out).m (HL.out.kept0 HKu3.out).e).mono ?_
      rintro en v3 ⟨rfl, hk⟩
      have HKv3 := Lib.hid (HKu3.out.trans' hk)
      have HSgav3 := Lib.hid (HSgau3.out.kept0 hk)
      have HSgY1bv3 := Lib.hid (HSgY1bu3.out.kept0 hk)
      have HSzv3 := Lib.hid (HSzu3.out.kept0 hk)
      clear hk
      clear c0 c1 c2 c3 c4
      go_upto_region 13 with (fail)
      have HKY3n := Lib.hid (HKv3.out.alloc (.cells #[.int .i64 0, .int .i64 0, .int .i64 0, .int .i64 0, .int .i64 0] 29))
      have HSgav3Y3n := Lib.hid (HSgav3.out.alloc (.cells #[.int .i64 0, .int .i64 0, .int .i64 0, .int .i64 0, .int .i64 0] 29))
      have HSgY1bv3Y3n := Lib.hid (HSgY1bv3.out.alloc (.cells #[.int .i64 0, .int .i64 0, .int .i64 0, .int .i64 0, .int .i64 0] 29))
      have HSzv3Y3n := Lib.hid (HSzv3.out.alloc (.cells #[.int .i64 0, .int .i64 0, .int .i64 0, .int .i64 0, .int .i64 0] 29))
      have HNY3n := Lib.hid (Blk.new v3 29 #[.int .i64 0, .int .i64 0, .int .i64 0, .int .i64 0, .int .i64 0])
      have hsY3n : w.heap.size ≤ v3.heap.size := HKv3.out.size
      have hlgaY3n : ga < v3.heap.size := HSgav3.out.lt
      have hlgY1bY3n : gY1b < v3.heap.size := HSgY1bv3.out.lt
      have hlgY2zY3n : gY2z < v3.heap.size := HSzv3.out.lt
      generalize v3.alloc (.cells #[.int .i64 0, .int .i64 0, .int .i64 0, .int .i64 0, .int .i64 0] 29) = Y3n at *
      obtain ⟨gY3n, hg⟩ : ∃ g, v3.heap.size = g := ⟨_, rfl⟩
      rw [hg] at HNY3n hsY3n hlgaY3n hlgY1bY3n hlgY2zY3n ⊢
      clear hg
      have c0 : Y3n.cell? ⟨ga, 0, none⟩ = some (.int .i64 (h0 % 256)) := HSgav3Y3n.out.cell 0
      have c1 : Y3n.cell? ⟨ga, 1, none⟩ = some (.int .i64 (h1 % 256)) := HSgav3Y3n.out.cell 1
      have c2 : Y3n.cell? ⟨ga, 2, none⟩ = some (.int .i64 (h2 % 256)) := HSgav3Y3n.out.cell 2
      have c3 : Y3n.cell? ⟨ga, 3, none⟩ = some (.int .i64 (h3 % 256)) := HSgav3Y3n.out.cell 3
      have c4 : Y3n.cell? ⟨ga, 4, none⟩ = some (.int .i64 (q)) := HSgav3Y3n.out.cell 4
      go_wp2_with fail
      refine (HTC.out Y3n (HL.out.kept0 HKY3n.out).p).mono ?_
      rintro en u4 ⟨rfl, hk⟩
      have HKu4 := Lib.hid (HKY3n.out.trans' hk)
      have HSgav3Y3nu4 := Lib.hid (HSgav3Y3n.out.kept0 hk)
      have HSgY1bv3Y3nu4 := Lib.hid (HSgY1bv3Y3n.out.kept0 hk)
      have HSzv3Y3nu4 := Lib.hid (HSzv3Y3n.out.kept0 hk)
      have HNY3nu4 := Lib.hid (HNY3n.out.kept0 hk)
      clear hk
      have he3 := HE3.out
      go_wp2_with fail
      clear he3
      refine (HC3.out u4 (HL.out.kept0 HKu4.out).m (HL.out.kept0 HKu4.out).e).mono ?_
      rintro en v4 ⟨rfl, hk⟩
      have HKv4 := Lib.hid (HKu4.out.trans' hk)
      have HSgav3Y3nv4 := Lib.hid (HSgav3Y3nu4.out.kept0 hk)
      have HSgY1bv3Y3nv4 := Lib.hid (HSgY1bv3Y3nu4.out.kept0 hk)
      have HSzv3Y3nv4 := Lib.hid (HSzv3Y3nu4.out.kept0 hk)
      have HNY3nv4 := Lib.hid (HNY3nu4.out.kept0 hk)
      clear hk
      clear c0 c1 c2 c3 c4
      go_upto_region 14 with (fail)
      have HKY4m := Lib.hid (HKv4.out.alloc (.cells #[.int .i64 0, .int .i64 0, .int .i64 0, .int .i64 0, .int .i64 0] 29))
      have HSgav3Y3nv4Y4m := Lib.hid (HSgav3Y3nv4.out.alloc (.cells #[.int .i64 0, .int .i64 0, .int .i64 0, .int .i64 0, .int .i64 0] 29))
      have HSgY1bv3Y3nv4Y4m := Lib.hid (HSgY1bv3Y3nv4.out.alloc (.cells #[.int .i64 0, .int .i64 0, .int .i64 0, .int .i64 0, .int .i64 0] 29))
      have HSzv3Y3nv4Y4m := Lib.hid (HSzv3Y3nv4.out.alloc (.cells #[.int .i64 0, .int .i64 0, .int .i64 0, .int .i64 0, .int .i64 0] 29))
      have HNY3nv4Y4m := Lib.hid (HNY3nv4.out.alloc (.cells #[.int .i64 0, .int .i64 0, .int .i64 0, .int .i64 0, .int .i64 0] 29))
      have HNY4m := Lib.hid (Blk.new v4 29 #[.int .i64 0, .int .i64 0, .int .i64 0, .int .i64 0, .int .i64 0])
      have hsY4m : w.heap.size ≤ v4.heap.size := HKv4.out.size
      have hlgaY4m : ga < v4.heap.size := HSgav3Y3nv4.out.lt
      have hlgY1bY4m : gY1b < v4.heap.size := HSgY1bv3Y3nv4.out.lt
      have hlgY2zY4m : gY2z < v4.heap.size := HSzv3Y3nv4.out.lt
      have hlgY3nY4m : gY3n < v4.heap.size := HNY3nv4.out.lt
      generalize v4.alloc (.cells #[.int .i64 0, .int .i64 0, .int .i64 0, .int .i64 0, .int .i64 0] 29) = Y4m at *
      obtain ⟨gY4m, hg⟩ : ∃ g, v4.heap.size = g := ⟨_, rfl⟩
      rw [hg] at HNY4m hsY4m hlgaY4m hlgY1bY4m hlgY2zY4m hlgY3nY4m ⊢
      clear hg
      have c0 : Y4m.cell? ⟨ga, 0, none⟩ = some (.int .i64 (h0 % 256)) := HSgav3Y3nv4Y4m.out.cell 0
      have c1 : Y4m.cell? ⟨ga, 1, none⟩ = some (.int .i64 (h1 % 256)) := HSgav3Y3nv4Y4m.out.cell 1
      have c2 : Y4m.cell? ⟨ga, 2, none⟩ = some (.int .i64 (h2 % 256)) := HSgav3Y3nv4Y4m.out.cell 2
      have c3 : Y4m.cell? ⟨ga, 3, none⟩ = some (.int .i64 (h3 % 256)) := HSgav3Y3nv4Y4m.out.cell 3
      have c4 : Y4m.cell? ⟨ga, 4, none⟩ = some (.int .i64 (q)) := HSgav3Y3nv4Y4m.out.cell 4
      go_wp2_with fail
      refine (HTC.out Y4m (HL.out.kept0 HKY4m.out).p).mono ?_
      rintro en u5 ⟨rfl, hk⟩
      have HKu5 := Lib.hid (HKY4m.out.trans' hk)
      have HSgav3Y3nv4Y4mu5 := Lib.hid (HSgav3Y3nv4Y4m.out.kept0 hk)
      have HSgY1bv3Y3nv4Y4mu5 := Lib.hid (HSgY1bv3Y3nv4Y4m.out.kept0 hk)
      have HSzv3Y3nv4Y4mu5 := Lib.hid (HSzv3Y3nv4Y4m.out.kept0 hk)
      have HNY3nv4Y4mu5 := Lib.hid (HNY3nv4Y4m.out.kept0 hk)
      have HNY4mu5 := Lib.hid (HNY4m.out.kept0 hk)
      clear hk
      have he4 := HE4.out
      go_wp2_with fail
      clear he4
      refine (HC4.out u5 (HL.out.kept0 HKu5.out).m (HL.out.kept0 HKu5.out).e).mono ?_
      rintro en v5 ⟨rfl, hk⟩
      have HKv5 := Lib.hid (HKu5.out.trans' hk)
      have HSgav3Y3nv4Y4mv5 := Lib.hid (HSgav3Y3nv4Y4mu5.out.kept0 hk)
      have HSgY1bv3Y3nv4Y4mv5 := Lib.hid (HSgY1bv3Y3nv4Y4mu5.out.kept0 hk)
      have HSzv3Y3nv4Y4mv5 := Lib.hid (HSzv3Y3nv4Y4mu5.out.kept0 hk)
      have HNY3nv4Y4mv5 := Lib.hid (HNY3nv4Y4mu5.out.kept0 hk)
      have HNY4mv5 := Lib.hid (HNY4mu5.out.kept0 hk)
      clear hk
      clear c0 c1 c2 c3 c4
      go_upto_region 15 with (fail)
      have HKY5l := Lib.hid (HKv5.out.alloc (.cells #[.int .i64 0, .int .i64 0, .int .i64 0, .int .i64 0, .int .i64 0] 29))
      have HSgav3Y3nv4Y4mv5Y5l := Lib.hid (HSgav3Y3nv4Y4mv5.out.alloc (.cells #[.int .i64 0, .int .i64 0, .int .i64 0, .int .i64 0, .int .i64 0] 29))
      have HSgY1bv3Y3nv4Y4mv5Y5l := Lib.hid (HSgY1bv3Y3nv4Y4mv5.out.alloc (.cells #[.int .i64 0, .int .i64 0, .int .i64 0, .int .i64 0, .int .i64 0] 29))
      have HSzv3Y3nv4Y4mv5Y5l := Lib.hid (HSzv3Y3nv4Y4mv5.out.alloc (.cells #[.int .i64 0, .int .i64 0, .int .i64 0, .int .i64 0, .int .i64 0] 29))
      have HNY3nv4Y4mv5Y5l := Lib.hid (HNY3nv4Y4mv5.out.alloc (.cells #[.int .i64 0, .int .i64 0, .int .i64 0, .int .i64 0, .int .i64 0] 29))
      have HNY4mv5Y5l := Lib.hid (HNY4mv5.out.alloc (.cells #[.int .i64 0, .int .i64 0, .int .i64 0, .int .i64 0, .int .i64 0] 29))
      have HNY5l := Lib.hid (Blk.new v5 29 #[.int .i64 0, .int .i64 0, .int .i64 0, .int .i64 0, .int .i64 0])
      have hsY5l : w.heap.size ≤ v5.heap.size := HKv5.out.size
      have hlgaY5l : ga < v5.heap.size := HSgav3Y3nv4Y4mv5.out.lt
      have hlgY1bY5l : gY1b < v5.heap.size := HSgY1bv3Y3nv4Y4mv5.out.lt
      have hlgY2zY5l : gY2z < v5.heap.size := HSzv3Y3nv4Y4mv5.out.lt
      have hlgY3nY5l : gY3n < v5.heap.size := HNY3nv4Y4mv5.out.lt
      have hlgY4mY5l : gY4m < v5.heap.size := HNY4mv5.out.lt
      generalize v5.alloc (.cells #[.int .i64 0, .int .i64 0, .int .i64 0, .int .i64 0, .int .i64 0] 29) = Y5l at *
      obtain ⟨gY5l, hg⟩ : ∃ g, v5.heap.size = g := ⟨_, rfl⟩
      rw [hg] at HNY5l hsY5l hlgaY5l hlgY1bY5l hlgY2zY5l hlgY3nY5l hlgY4mY5l ⊢
      clear hg
      have c0 : Y5l.cell? ⟨ga, 0, none⟩ = some (.int .i64 (h0 % 256)) := HSgav3Y3nv4Y4mv5Y5l.out.cell 0
      have c1 : Y5l.cell? ⟨ga, 1, none⟩ = some (.int .i64 (h1 % 256)) := HSgav3Y3nv4Y4mv5Y5l.out.cell 1
      have c2 : Y5l.cell? ⟨ga, 2, none⟩ = some (.int .i64 (h2 % 256)) := HSgav3Y3nv4Y4mv5Y5l.out.cell 2
      have c3 : Y5l.cell? ⟨ga, 3, none⟩ = some (.int .i64 (h3 % 256)) := HSgav3Y3nv4Y4mv5Y5l.out.cell 3
      have c4 : Y5l.cell? ⟨ga, 4, none⟩ = some (.int .i64 (q)) := HSgav3Y3nv4Y4mv5Y5l.out.cell 4
      have d0 : Y5l.cell? ⟨gY1b, 0, none⟩ = some (.int .i64 (h0 % 256)) := HSgY1bv3Y3nv4Y4mv5Y5l.out.cell 0
      have d1 : Y5l.cell? ⟨gY1b, 1, none⟩ = some (.int .i64 (h1 % 256)) := HSgY1bv3Y3nv4Y4mv5Y5l.out.cell 1
      have d2 : Y5l.cell? ⟨gY1b, 2, none⟩ = some (.int .i64 (h2 % 256)) := HSgY1bv3Y3nv4Y4mv5Y5l.out.cell 2
      have d3 : Y5l.cell? ⟨gY1b, 3, none⟩ = some (.int .i64 (h3 % 256)) := HSgY1bv3Y3nv4Y4mv5Y5l.out.cell 3
      have d4 : Y5l.cell? ⟨gY1b, 4, none⟩ = some (.int .i64 (q)) := HSgY1bv3Y3nv4Y4mv5Y5l.out.cell 4
      go_wp2_with fail
      go_ret
      exact ⟨rfl, HKY5l.out.below⟩
theorem addrBack_walk (W : World) (a0 a1 a2 a3 a4 : Int) (a5 a6 : ByteArray) (w0 : (Lit.int .i64 a0).wf = true) (w1 : (Lit.int .i64 a1).wf = true) (w2 : (Lit.int .i64 a2).wf = true) (w3 : (Lit.int .i64 a3).wf = true) (w4 : (Lit.int .i64 a4).wf = true) (w5 : a5.size ≤ 140737488351232) (w6 : a6.size ≤ 140737488351232) (hL : laidMetH Tryd.prog Rows.addrBackRow.laid W) (hsh : W.ShapedOpen Tryd.prog) :
    Calls Tryd.prog 5 #[.agg #[.int .i64 a0, .int .i64 a1, .int .i64 a2, .int .i64 a3, .int .i64 a4], .string a5, .string a6] W fun en w' => en = .returned (.bool true) ∧ Below W.heap.size W w' := by
  have h := back_law W a0 a1 a2 a3 a4 a5.data.toList a6.data.toList (by rw [Array.length_toList]; exact w5) (by rw [Array.length_toList]; exact w6) (LdT.of hL hsh)
  rwa [strB_data, strB_data] at h
end Go.Proofs.YtlbipnfnimekfaaDoor
