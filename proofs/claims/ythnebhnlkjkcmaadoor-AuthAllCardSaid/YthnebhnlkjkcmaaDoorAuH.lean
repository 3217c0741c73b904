/- Who one is: the head of the laws. (Printed by gen_auh.py.) -/
import Derived.Test.YthnebhnlkjkcmaaDoorDsum5
import Derived.Test.YthnebhnlkjkcmaaDoorHexW5
import Derived.Test.YthnebhnlkjkcmaaDoorAuC
import Derived.Test.YthnebhnlkjkcmaaDoorRows
import Derived.Test.YthnebhnlkjkcmaaDoorRowW
import Derived.LaidSub
import Derived.MakeChecks
import Derived.Lib.LaidTab
import Derived.Stop.BytesEq
set_option linter.unusedVariables false
set_option linter.unusedSimpArgs false
namespace Go.Proofs.YthnebhnlkjkcmaaDoor
open Go.RowKit Go.Shelf Go.Lib Go.MakeChecks

theorem trod_floatX {H : Type} {enc : TypeId × Value → H} {P : Program} {w : World} {base : Nat} {sp : Nat → Bool} {held : Bool} {fuel : Nat} {t : TypeId} {k : FloatKind} {cs : List Value} {x : DataW H × List MemPlace}
    (ht : P.underlying t = some (.float k)) (h : DataW.trod enc P w base sp held fuel t cs = some x) : ∃ n, cs = [.float k n] ∧ x = (.lit (.float k n), []) := by
  cases fuel with
  | zero => simp [DataW.trod] at h
  | succ n =>
    unfold DataW.trod at h
    rw [ht] at h
    split at h <;> simp_all
def tabF {H : Type} (zs : List Nat) : DataW H := .agg (zs.map fun z => .lit (.float .f64 z))
theorem cells_of_tabF {H : Type} {enc : TypeId × Value → H} {P : Program} {w : World} {base : Nat} {sp : Nat → Bool} {held : Bool} {fuel : Nat} {t e : TypeId} {n : Nat} {cs : List Value} {zs : List Nat} {p : List MemPlace}
    (ht : P.underlying t = some (.array n e)) (he : P.underlying e = some (.float .f64)) (hce : P.cellsOf e = 1) (hct : P.cellsOf t = n)
    (h : DataW.trod enc P w base sp held fuel t cs = some (tabF zs, p)) : cs = zs.map fun z => Value.float .f64 z := by
  cases fuel with
  | zero => simp [DataW.trod] at h
  | succ fuel =>
    simp only [DataW.trod, ht, hce, hct, Nat.mul_one] at h
    split at h
    · rename_i hl
      obtain ⟨xs, hm, hx⟩ := Option.map_eq_some_iff.1 h
      have hxs : xs.map (·.1) = zs.map fun z => (DataW.lit (.float .f64 z) : DataW H) := by
        have := congrArg Prod.fst hx
        simpa [tabF] using this
      have hxl : xs.length = n := by simpa using mapM_length hm
      have hzl : zs.length = n := by
        have := congrArg List.length hxs
        simp at this
        omega
      apply List.ext_getElem?
      intro i
      by_cases hi : i < n
      · obtain ⟨b, hb, hf⟩ := mapM_at hm i i (by simp [hi])
        obtain ⟨z, hc, rfl⟩ := trod_floatX he hf
        have h1 : cs[i]? = some (.float .f64 z) := by
          have := congrArg (·[0]?) hc
          simpa [List.getElem?_take, List.getElem?_drop] using this
        have h2 : (xs.map (·.1))[i]? = some (DataW.lit (.float .f64 z) : DataW H) := by simp [hb]
        rw [hxs] at h2
        simp only [List.getElem?_map, Option.map_eq_some_iff, DataW.lit.injEq, Lit.float.injEq, true_and] at h2
        obtain ⟨z', hz', rfl⟩ := h2
        simp [h1, hz']
      · rw [List.getElem?_eq_none (by omega), List.getElem?_eq_none (by simp; omega)]
    · cases h
theorem tabF_of_head {P : Program} {W : World} {name : String} {zs : List Nat} {rest : List (String × DataW Unit)} {g : Nat} {t e : TypeId} {n : Nat}
    (hg : P.globalNamed name = some g) (hty : (P.globals[g]?).map (·.type) = some t) (ht : P.underlying t = some (.array n e)) (he : P.underlying e = some (.float .f64)) (hce : P.cellsOf e = 1) (hct : P.cellsOf t = n)
    (h : laidMet P ((name, tabF zs) :: rest) W) : ∀ i z, zs[i]? = some z → W.cell? ⟨g, i, none⟩ = some (.float .f64 z) := by
  obtain ⟨ps, ⟨g', t', cs, fuel, p, q, hg', ht', hvar, hd, _, _⟩, _⟩ := h
  obtain rfl := Option.some.inj (hg.symm.trans hg')
  obtain rfl := Option.some.inj (hty.symm.trans ht')
  intro i z hz
  have hcs := cells_of_tabF ht he hce hct hd
  rw [World.var?_cell hg hvar i, ← Array.getElem?_toList, hcs, List.getElem?_map, hz]
  rfl
def sinZ : List Nat := [4460209587652500685, 13716528389658582877, 4523617212962785441, 13774824197404483331, 4575957461383575504, 13818544856648471880]
def cosZ : List Nat := [13666448263388469915, 4477121864728985349, 13732177093698800582, 4537941361668146421, 13787419979223748497, 4586165620538955083]
theorem SinC.of_laidL {w : World} {L : _} (h : laidMetH Tryd.prog L w) (e1 : L.filter (fun x => x.1 == "math._sin") = [("math._sin", tabF sinZ)]) (e2 : L.filter (fun x => x.1 == "math._cos") = [("math._cos", tabF cosZ)]) : SinC w := by
  have h1 := laidMetH.filter (fun x => x.1 == "math._sin") h
  rw [e1, laidMetH_plain _ _ _ (by rfl)] at h1
  have h2 := laidMetH.filter (fun x => x.1 == "math._cos") h
  rw [e2, laidMetH_plain _ _ _ (by rfl)] at h2
  have k1 := tabF_of_head (g := 5) (t := 120) (e := 105) (n := 6) (by kernel_rfl) (by kernel_rfl) Tryd.underlying120 Tryd.underlying105 (by kernel_rfl) (by kernel_rfl) h1
  have k2 := tabF_of_head (g := 4) (t := 120) (e := 105) (n := 6) (by kernel_rfl) (by kernel_rfl) Tryd.underlying120 Tryd.underlying105 (by kernel_rfl) (by kernel_rfl) h2
  exact ⟨k2 0 _ rfl, k2 1 _ rfl, k2 2 _ rfl, k2 3 _ rfl, k2 4 _ rfl, k2 5 _ rfl, k1 0 _ rfl, k1 1 _ rfl, k1 2 _ rfl, k1 3 _ rfl, k1 4 _ rfl, k1 5 _ rfl⟩
theorem au_len (L : List UInt8) : (md5P L).length = 16 := by simp [md5P, outL]
theorem au_reads {w : World} {g : Nat} {t : TypeId} {X : List UInt8} (h : Blk w g t (b8s X).toArray) (n : Nat) (hX : X.length = n) : Reads w (fun b => b = g) (some ⟨g, 0, none⟩) n (b8s X) := by
  refine ⟨by rw [b8s_length, hX], fun _ => ⟨_, rfl, rfl, h.lt, fun j u hu => ?_⟩⟩
  rw [add_lit0, h.cell, List.getElem?_toArray, hu]
set_option maxHeartbeats 4000000 in
set_option maxRecDepth 100000 in
theorem apop_calls (w : World) (s p : List UInt8) (hs : s.length ≤ 1099511627) (hp : p.length ≤ 1099511627) (hC : SinC w) :
    Calls Tryd.prog 19 #[.string (strB s), .string (strB p)] w fun en w' => en = .returned (.string (strB (hexL (md5P (s ++ p))))) ∧ Kept w w' NoB := by
  have kb := fun (W : World) (s : ByteArray) => Lib.run_convert_string_bytes (P := Tryd.prog) W 9 27 5 s Tryd.underlying9 Tryd.underlying27 Tryd.underlying5
  have e1 := au_app s p
  have hlen : (s ++ p).length ≤ 2199023254 := by rw [List.length_append]; omega
  obtain ⟨F, hF⟩ : ∃ F, s ++ p = F := ⟨_, rfl⟩
  rw [hF] at e1 hlen ⊢
  have hl := au_len F
  obtain ⟨M, hM⟩ : ∃ M, md5P F = M := ⟨_, rfl⟩
  rw [hM] at hl
  obtain ⟨r0, r1, r2, r3, r4, r5, r6, r7, r8, r9, r10, r11, r12, r13, r14, r15, hre⟩ := list16 M hl
  have hv : v16 M = .agg #[.int .u8 (r0.toNat : Int), .int .u8 (r1.toNat : Int), .int .u8 (r2.toNat : Int), .int .u8 (r3.toNat : Int), .int .u8 (r4.toNat : Int), .int .u8 (r5.toNat : Int), .int .u8 (r6.toNat : Int), .int .u8 (r7.toNat : Int), .int .u8 (r8.toNat : Int), .int .u8 (r9.toNat : Int), .int .u8 (r10.toNat : Int), .int .u8 (r11.toNat : Int), .int .u8 (r12.toNat : Int), .int .u8 (r13.toNat : Int), .int .u8 (r14.toNat : Int), .int .u8 (r15.toNat : Int)] := by rw [hre]; rfl
  have hrb := Reads.bytesW w 5 (strB F)
  rw [strB_size, strB_toList] at hrb
  have hkb : Kept w (Lib.bytesWorld w 5 (strB F)) NoB := (Kept.refl _ _).bytesW _ _
  have hsm := sum_any (Lib.bytesWorld w 5 (strB F)) _ _ _ (grownCap w F.length 0 5) F hrb (grownCap_ge _ _ _ _) (by omega) (grownCap_le_maxLen _ _ _ _ (by unfold maxLen; omega)) (hC.kept0 hkb)
  rw [hM, hv] at hsm
  have HM := Lib.hid hM
  have HL := Lib.hid hl
  have HRE := Lib.hid hre
  have HS := Lib.hid hsm
  have HK := Lib.hid hkb
  clear hF hl hM hre hv hrb hkb hsm hC
  go_enter Tryd.func19, Tryd.ntmps19
  go_wp2_with fail
  refine HS.out.mono ?_
  rintro en w1 ⟨rfl, hk⟩
  have HK1 := Lib.hid (HK.out.trans' hk)
  clear hk HS HK e1
  go_upto_region 2 with (fail)
  have HK2 := Lib.hid (HK1.out.alloc (.cells #[.int .u8 (r0.toNat : Int), .int .u8 (r1.toNat : Int), .int .u8 (r2.toNat : Int), .int .u8 (r3.toNat : Int), .int .u8 (r4.toNat : Int), .int .u8 (r5.toNat : Int), .int .u8 (r6.toNat : Int), .int .u8 (r7.toNat : Int), .int .u8 (r8.toNat : Int), .int .u8 (r9.toNat : Int), .int .u8 (r10.toNat : Int), .int .u8 (r11.toNat : Int), .int .u8 (r12.toNat : Int), .int .u8 (r13.toNat : Int), .int .u8 (r14.toNat : Int), .int .u8 (r15.toNat : Int)] 48))
  have hb2 := Blk.new w1 48 #[.int .u8 (r0.toNat : Int), .int .u8 (r1.toNat : Int), .int .u8 (r2.toNat : Int), .int .u8 (r3.toNat : Int), .int .u8 (r4.toNat : Int), .int .u8 (r5.toNat : Int), .int .u8 (r6.toNat : Int), .int .u8 (r7.toNat : Int), .int .u8 (r8.toNat : Int), .int .u8 (r9.toNat : Int), .int .u8 (r10.toNat : Int), .int .u8 (r11.toNat : Int), .int .u8 (r12.toNat : Int), .int .u8 (r13.toNat : Int), .int .u8 (r14.toNat : Int), .int .u8 (r15.toNat : Int)]
  have e2 : (#[.int .u8 (r0.toNat : Int), .int .u8 (r1.toNat : Int), .int .u8 (r2.toNat : Int), .int .u8 (r3.toNat : Int), .int .u8 (r4.toNat : Int), .int .u8 (r5.toNat : Int), .int .u8 (r6.toNat : Int), .int .u8 (r7.toNat : Int), .int .u8 (r8.toNat : Int), .int .u8 (r9.toNat : Int), .int .u8 (r10.toNat : Int), .int .u8 (r11.toNat : Int), .int .u8 (r12.toNat : Int), .int .u8 (r13.toNat : Int), .int .u8 (r14.toNat : Int), .int .u8 (r15.toNat : Int)] : Array Value) = (b8s M).toArray := by rw [HRE.out]; rfl
  generalize w1.alloc (.cells #[.int .u8 (r0.toNat : Int), .int .u8 (r1.toNat : Int), .int .u8 (r2.toNat : Int), .int .u8 (r3.toNat : Int), .int .u8 (r4.toNat : Int), .int .u8 (r5.toNat : Int), .int .u8 (r6.toNat : Int), .int .u8 (r7.toNat : Int), .int .u8 (r8.toNat : Int), .int .u8 (r9.toNat : Int), .int .u8 (r10.toNat : Int), .int .u8 (r11.toNat : Int), .int .u8 (r12.toNat : Int), .int .u8 (r13.toNat : Int), .int .u8 (r14.toNat : Int), .int .u8 (r15.toNat : Int)] 48) = W2 at *
  rw [e2] at hb2
  have HRD := Lib.hid (au_reads hb2 16 HL.out)
  clear hb2 e2 kb
  go_wp2_with fail
  refine (hex_calls W2 _ _ 16 16 M HRD.out (by omega)).mono ?_
  rintro en w3 ⟨rfl, hk⟩
  have HK3 := Lib.hid (HK2.out.trans' hk)
  clear hk
  go_wp2_with fail
  go_ret
  exact ⟨by rw [HM.out]; rfl, HK3.out⟩
def exSt : List UInt8 := [60, 49, 56, 57, 54, 46, 54, 57, 55, 49, 55, 48, 57, 53, 50, 64, 100, 98, 99, 46, 109, 116, 118, 105, 101, 119, 46, 99, 97, 46, 117, 115, 62]
def exPa : List UInt8 := [116, 97, 110, 115, 116, 97, 97, 102]
theorem hex_apop : hexL (md5P (exSt ++ exPa)) = [99, 52, 99, 57, 51, 51, 52, 98, 97, 99, 53, 54, 48, 101, 99, 99, 57, 55, 57, 101, 53, 56, 48, 48, 49, 98, 51, 101, 50, 50, 102, 98] := by decide +kernel
set_option maxHeartbeats 1000000 in
set_option maxRecDepth 100000 in
theorem shown_calls (w : World) (hC : SinC w) : Calls Tryd.prog 7 #[] w fun en w' => en = .returned (.bool true) ∧ Kept w w' NoB := by
  have h := apop_calls w exSt exPa (by decide) (by decide) hC
  rw [hex_apop] at h
  have H := Lib.hid h
  clear h hC
  go_enter Tryd.func7, Tryd.ntmps7
  go_wp2_with fail
  refine H.out.mono ?_
  rintro en w1 ⟨rfl, hk⟩
  have HK := Lib.hid hk
  clear hk
  go_wp2_with fail
  go_ret
  exact ⟨rfl, HK.out⟩
theorem short_calls (w : World) (l : List UInt8) (hl : l.length ≤ 140737488351232) :
    Calls Tryd.prog 8 #[.string (strB l)] w fun en w' => en = .returned (.string (strB (l.take 200))) ∧ w = w' := by
  rcases Nat.lt_or_ge 200 l.length with h | h
  · have t1 : (200 : Int) < (l.length : Int) := by omega
    have t2 : (200 : Int) ≤ (l.length : Int) := by omega
    have e : (strB l).extract 0 200 = strB (l.take 200) := by rw [strB_cut]; simp
    go_enter Tryd.func8, Tryd.ntmps8
    go_wp2_with fail
    go_ret
    exact ⟨rfl, rfl⟩
  · have t1 : ¬ (200 : Int) < (l.length : Int) := by omega
    have e : l.take 200 = l := List.take_of_length_le h
    rw [e]
    clear e
    go_enter Tryd.func8, Tryd.ntmps8
    go_wp2_with fail
    go_ret
    exact ⟨rfl, rfl⟩
end Go.Proofs.YthnebhnlkjkcmaaDoor
