/- Digests: the head of the laws. -/
import Derived.Test.YtlmomdpkolnbcaaDoorDsum
import Derived.Test.YtlmomdpkolnbcaaDoorHexW
import Derived.Test.YtlmomdpkolnbcaaDoorRows
import Derived.Test.YtlmomdpkolnbcaaDoorRowW
import Derived.LaidSub
import Derived.MakeChecks
import Derived.Lib.LaidTab
import Derived.Stop.BytesEq
set_option linter.unusedVariables false
set_option linter.unusedSimpArgs false
namespace Go.Proofs.YtlmomdpkolnbcaaDoor
open Go.RowKit Go.Shelf Go.Lib Go.MakeChecks

theorem trod_floatX {H : Type} {enc : TypeId × Value → H} {P : Program} {w : World} {base : Nat} {sp : Nat → Bool} {held : Bool} {fuel : Nat} {t : TypeId} {k : FloatKind} {cs : List Value} {x : DataW H × List MemPlace}
    (ht : P.underlying t = some (.float k)) (h : DataW.trod enc P w base sp held fuel t cs = some x) : ∃ n, cs = [.float k n] ∧ x = (.lit (.float k n), []) := by
  cases fuel with
  | zero => simp [DataW.trod] at h
  | succ n =>
    unfold DataW.trod at h
    rw [ht] at h
    split at h <;> simp_all
def tabF {H : Type} (zs : List Nat) : DataW H := .agg (zs.map fun z => .lit (.float .f64 z))
theorem cells_of_tabF {H : Type} {enc : TypeId × Value → H} {P : Program} {w : World} {base : Nat} {sp : Nat → Bool} {held : Bool} {fuel : Nat} {t e : TypeId} {n : Nat} {cs : List Value} {zs : List Nat} {p : List MemPlace}
    (ht : P.underlying t = some (.array n e)) (he : P.underlying e = some (.float .f64)) (hce : P.cellsOf e = 1) (hct : P.cellsOf t = n)
    (h : DataW.trod enc P w base sp held fuel t cs = some (tabF zs, p)) : cs = zs.map fun z => Value.float .f64 z := by
  cases fuel with
  | zero => simp [DataW.trod] at h
  | succ fuel =>
    simp only [DataW.trod, ht, hce, hct, Nat.mul_one] at h
    split at h
    · rename_i hl
      obtain ⟨xs, hm, hx⟩ := Option.map_eq_some_iff.1 h
      have hxs : xs.map (·.1) = zs.map fun z => (DataW.lit (.float .f64 z) : DataW H) := by
        have := congrArg Prod.fst hx
        simpa [tabF] using this
      have hxl : xs.length = n := by simpa using mapM_length hm
      have hzl : zs.length = n := by
        have := congrArg List.length hxs
        simp at this
        omega
      apply List.ext_getElem?
      intro i
      by_cases hi : i < n
      · obtain ⟨b, hb, hf⟩ := mapM_at hm i i (by simp [hi])
        obtain ⟨z, hc, rfl⟩ := trod_floatX he hf
        have h1 : cs[i]? = some (.float .f64 z) := by
          have := congrArg (·[0]?) hc
          simpa [List.getElem?_take, List.getElem?_drop] using this
        have h2 : (xs.map (·.1))[i]? = some (DataW.lit (.float .f64 z) : DataW H) := by simp [hb]
        rw [hxs] at h2
        simp only [List.getElem?_map, Option.map_eq_some_iff, DataW.lit.injEq, Lit.float.injEq, true_and] at h2
        obtain ⟨z', hz', rfl⟩ := h2
        simp [h1, hz']
      · rw [List.getElem?_eq_none (by omega), List.getElem?_eq_none (by simp; omega)]
    · cases h
theorem tabF_of_head {P : Program} {W : World} {name : String} {zs : List Nat} {rest : List (String × DataW Unit)} {g : Nat} {t e : TypeId} {n : Nat}
    (hg : P.globalNamed name = some g) (hty : (P.globals[g]?).map (·.type) = some t) (ht : P.underlying t = some (.array n e)) (he : P.underlying e = some (.float .f64)) (hce : P.cellsOf e = 1) (hct : P.cellsOf t = n)
    (h : laidMet P ((name, tabF zs) :: rest) W) : ∀ i z, zs[i]? = some z → W.cell? ⟨g, i, none⟩ = some (.float .f64 z) := by
  obtain ⟨ps, ⟨g', t', cs, fuel, p, q, hg', ht', hvar, hd, _, _⟩, _⟩ := h
  obtain rfl := Option.some.inj (hg.symm.trans hg')
  obtain rfl := Option.some.inj (hty.symm.trans ht')
  intro i z hz
  have hcs := cells_of_tabF ht he hce hct hd
  rw [World.var?_cell hg hvar i, ← Array.getElem?_toList, hcs, List.getElem?_map, hz]
  rfl
def sinZ : List Nat := [4460209587652500685, 13716528389658582877, 4523617212962785441, 13774824197404483331, 4575957461383575504, 13818544856648471880]
def cosZ : List Nat := [13666448263388469915, 4477121864728985349, 13732177093698800582, 4537941361668146421, 13787419979223748497, 4586165620538955083]
theorem SinC.of_laid {w : World} (h : laidMetH Tryd.prog Rows.digestKnownRow.laid w) : SinC w := by
  have h1 := laidMetH.filter (fun x => x.1 == "math._sin") h
  have e1 : Rows.digestKnownRow.laid.filter (fun x => x.1 == "math._sin") = [("math._sin", tabF sinZ)] := by rfl
  rw [e1, laidMetH_plain _ _ _ (by rfl)] at h1
  have h2 := laidMetH.filter (fun x => x.1 == "math._cos") h
  have e2 : Rows.digestKnownRow.laid.filter (fun x => x.1 == "math._cos") = [("math._cos", tabF cosZ)] := by rfl
  rw [e2, laidMetH_plain _ _ _ (by rfl)] at h2
  have k1 := tabF_of_head (g := 3) (t := 78) (e := 67) (n := 6) (by kernel_rfl) (by kernel_rfl) Tryd.underlying78 Tryd.underlying67 (by kernel_rfl) (by kernel_rfl) h1
  have k2 := tabF_of_head (g := 2) (t := 78) (e := 67) (n := 6) (by kernel_rfl) (by kernel_rfl) Tryd.underlying78 Tryd.underlying67 (by kernel_rfl) (by kernel_rfl) h2
  exact ⟨k2 0 _ rfl, k2 1 _ rfl, k2 2 _ rfl, k2 3 _ rfl, k2 4 _ rfl, k2 5 _ rfl, k1 0 _ rfl, k1 1 _ rfl, k1 2 _ rfl, k1 3 _ rfl, k1 4 _ rfl, k1 5 _ rfl⟩
theorem md5_len (L : List UInt8) : (md5P L).length = 16 := by simp [md5P, outL]
theorem hex_nil : hexL (md5P []) = [100, 52, 49, 100, 56, 99, 100, 57, 56, 102, 48, 48, 98, 50, 48, 52, 101, 57, 56, 48, 48, 57, 57, 56, 101, 99, 102, 56, 52, 50, 55, 101] := by decide +kernel
theorem hex_abc : hexL (md5P [97, 98, 99]) = [57, 48, 48, 49, 53, 48, 57, 56, 51, 99, 100, 50, 52, 102, 98, 48, 100, 54, 57, 54, 51, 102, 55, 100, 50, 56, 101, 49, 55, 102, 55, 50] := by decide +kernel
def num80 : List UInt8 := (List.replicate 8 [49, 50, 51, 52, 53, 54, 55, 56, 57, 48]).flatten
theorem hex_num : hexL (md5P num80) = [53, 55, 101, 100, 102, 52, 97, 50, 50, 98, 101, 51, 99, 57, 53, 53, 97, 99, 52, 57, 100, 97, 50, 101, 50, 49, 48, 55, 98, 54, 55, 97] := by decide +kernel
/-- A block of bytes, whole. -/
theorem blkB_reads {w : World} {g : Nat} {t : TypeId} {X : List UInt8} (h : Blk w g t (b8s X).toArray) (n : Nat) (hX : X.length = n) : Reads w (fun b => b = g) (some ⟨g, 0, none⟩) n (b8s X) := by
  refine ⟨by rw [b8s_length, hX], fun _ => ⟨_, rfl, rfl, h.lt, fun j u hu => ?_⟩⟩
  rw [add_lit0, h.cell, List.getElem?_toArray, hu]
theorem v16_lit (M : List UInt8) (h : M.length = 16) : ∃ r0 r1 r2 r3 r4 r5 r6 r7 r8 r9 r10 r11 r12 r13 r14 r15 : UInt8, M = [r0, r1, r2, r3, r4, r5, r6, r7, r8, r9, r10, r11, r12, r13, r14, r15] ∧ v16 M = .agg #[.int .u8 (r0.toNat : Int), .int .u8 (r1.toNat : Int), .int .u8 (r2.toNat : Int), .int .u8 (r3.toNat : Int), .int .u8 (r4.toNat : Int), .int .u8 (r5.toNat : Int), .int .u8 (r6.toNat : Int), .int .u8 (r7.toNat : Int), .int .u8 (r8.toNat : Int), .int .u8 (r9.toNat : Int), .int .u8 (r10.toNat : Int), .int .u8 (r11.toNat : Int), .int .u8 (r12.toNat : Int), .int .u8 (r13.toNat : Int), .int .u8 (r14.toNat : Int), .int .u8 (r15.toNat : Int)] := by
  obtain ⟨r0, r1, r2, r3, r4, r5, r6, r7, r8, r9, r10, r11, r12, r13, r14, r15, rfl⟩ := list16 M h
  exact ⟨r0, r1, r2, r3, r4, r5, r6, r7, r8, r9, r10, r11, r12, r13, r14, r15, rfl, rfl⟩
set_option maxHeartbeats 1000000 in
set_option maxRecDepth 100000 in
theorem shown_calls (w : World) (hC : SinC w) : Calls Tryd.prog 8 #[] w fun en w' => en = .returned (.bool true) ∧ Kept w w' NoB := by
  have hs := sum_any w NoB none 0 0 [] (Reads.nil _ _ _) (Nat.le_refl _) (by omega) (by omega) hC
  have hx := hex_nil
  have hl := md5_len []
  obtain ⟨M, hM⟩ : ∃ M, md5P [] = M := ⟨_, rfl⟩
  rw [hM] at hs hx hl
  obtain ⟨r0, r1, r2, r3, r4, r5, r6, r7, r8, r9, r10, r11, r12, r13, r14, r15, hMr, hv⟩ := v16_lit M hl
  rw [hv] at hs
  have HS := Lib.hid hs
  have HX := Lib.hid hx
  have HL := Lib.hid hl
  have HM := Lib.hid hMr
  clear hs hx hl hM hC hMr hv
  go_enter Tryd.func8, Tryd.ntmps8
  go_wp2_with fail
  refine HS.out.mono ?_
  rintro en w1 ⟨rfl, hk⟩
  have HK := Lib.hid hk
  clear hk
  go_upto_region 2 with (fail)
  have hb : Blk (w1.alloc (.cells #[.int .u8 (r0.toNat : Int), .int .u8 (r1.toNat : Int), .int .u8 (r2.toNat : Int), .int .u8 (r3.toNat : Int), .int .u8 (r4.toNat : Int), .int .u8 (r5.toNat : Int), .int .u8 (r6.toNat : Int), .int .u8 (r7.toNat : Int), .int .u8 (r8.toNat : Int), .int .u8 (r9.toNat : Int), .int .u8 (r10.toNat : Int), .int .u8 (r11.toNat : Int), .int .u8 (r12.toNat : Int), .int .u8 (r13.toNat : Int), .int .u8 (r14.toNat : Int), .int .u8 (r15.toNat : Int)] 25)) w1.heap.size 25 (b8s M).toArray := by rw [HM.out]; exact Blk.new w1 _ _
  have HB := Lib.hid hb
  have HK2 := Lib.hid (HK.out.alloc (.cells #[.int .u8 (r0.toNat : Int), .int .u8 (r1.toNat : Int), .int .u8 (r2.toNat : Int), .int .u8 (r3.toNat : Int), .int .u8 (r4.toNat : Int), .int .u8 (r5.toNat : Int), .int .u8 (r6.toNat : Int), .int .u8 (r7.toNat : Int), .int .u8 (r8.toNat : Int), .int .u8 (r9.toNat : Int), .int .u8 (r10.toNat : Int), .int .u8 (r11.toNat : Int), .int .u8 (r12.toNat : Int), .int .u8 (r13.toNat : Int), .int .u8 (r14.toNat : Int), .int .u8 (r15.toNat : Int)] 25))
  clear hb
  generalize w1.alloc (.cells #[.int .u8 (r0.toNat : Int), .int .u8 (r1.toNat : Int), .int .u8 (r2.toNat : Int), .int .u8 (r3.toNat : Int), .int .u8 (r4.toNat : Int), .int .u8 (r5.toNat : Int), .int .u8 (r6.toNat : Int), .int .u8 (r7.toNat : Int), .int .u8 (r8.toNat : Int), .int .u8 (r9.toNat : Int), .int .u8 (r10.toNat : Int), .int .u8 (r11.toNat : Int), .int .u8 (r12.toNat : Int), .int .u8 (r13.toNat : Int), .int .u8 (r14.toNat : Int), .int .u8 (r15.toNat : Int)] 25) = W at *
  go_wp2_with fail
  refine (hex_calls W _ _ 16 16 M (blkB_reads HB.out 16 HL.out) (by omega)).mono ?_
  rw [HX.out]
  rintro en w2 ⟨rfl, hk⟩
  have HK3 := Lib.hid (HK2.out.trans' hk)
  clear hk
  go_wp2_with fail
  go_ret
  exact ⟨rfl, HK3.out⟩
end Go.Proofs.YtlmomdpkolnbcaaDoor
