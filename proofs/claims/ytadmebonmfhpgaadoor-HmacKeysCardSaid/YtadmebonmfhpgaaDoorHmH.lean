/- Keys' digests: the head of the laws. (Printed by gen_hmh.py.) -/
import Derived.Test.YtadmebonmfhpgaaDoorHmT
import Derived.Test.YtadmebonmfhpgaaDoorRows
import Derived.Test.YtadmebonmfhpgaaDoorRowW
import Derived.LaidSub
import Derived.MakeChecks
import Derived.Lib.LaidTab
import Derived.Stop.BytesEq
set_option linter.unusedVariables false
set_option linter.unusedSimpArgs false
namespace Go.Proofs.YtadmebonmfhpgaaDoor
open Go.RowKit Go.Shelf Go.Lib Go.MakeChecks

theorem trod_floatX {H : Type} {enc : TypeId × Value → H} {P : Program} {w : World} {base : Nat} {sp : Nat → Bool} {held : Bool} {fuel : Nat} {t : TypeId} {k : FloatKind} {cs : List Value} {x : DataW H × List MemPlace}
    (ht : P.underlying t = some (.float k)) (h : DataW.trod enc P w base sp held fuel t cs = some x) : ∃ n, cs = [.float k n] ∧ x = (.lit (.float k n), []) := by
  cases fuel with
  | zero => simp [DataW.trod] at h
  | succ n =>
    unfold DataW.trod at h
    rw [ht] at h
    split at h <;> simp_all
def tabF {H : Type} (zs : List Nat) : DataW H := .agg (zs.map fun z => .lit (.float .f64 z))
theorem cells_of_tabF {H : Type} {enc : TypeId × Value → H} {P : Program} {w : World} {base : Nat} {sp : Nat → Bool} {held : Bool} {fuel : Nat} {t e : TypeId} {n : Nat} {cs : List Value} {zs : List Nat} {p : List MemPlace}
    (ht : P.underlying t = some (.array n e)) (he : P.underlying e = some (.float .f64)) (hce : P.cellsOf e = 1) (hct : P.cellsOf t = n)
    (h : DataW.trod enc P w base sp held fuel t cs = some (tabF zs, p)) : cs = zs.map fun z => Value.float .f64 z := by
  cases fuel with
  | zero => simp [DataW.trod] at h
  | succ fuel =>
    simp only [DataW.trod, ht, hce, hct, Nat.mul_one] at h
    split at h
    · rename_i hl
      obtain ⟨xs, hm, hx⟩ := Option.map_eq_some_iff.1 h
      have hxs : xs.map (·.1) = zs.map fun z => (DataW.lit (.float .f64 z) : DataW H) := by
        have := congrArg Prod.fst hx
        simpa [tabF] using this
      have hxl : xs.length = n := by simpa using mapM_length hm
      have hzl : zs.length = n := by
        have := congrArg List.length hxs
        simp at this
        omega
      apply List.ext_getElem?
      intro i
      by_cases hi : i < n
      · obtain ⟨b, hb, hf⟩ := mapM_at hm i i (by simp [hi])
        obtain ⟨z, hc, rfl⟩ := trod_floatX he hf
        have h1 : cs[i]? = some (.float .f64 z) := by
          have := congrArg (·[0]?) hc
          simpa [List.getElem?_take, List.getElem?_drop] using this
        have h2 : (xs.map (·.1))[i]? = some (DataW.lit (.float .f64 z) : DataW H) := by simp [hb]
        rw [hxs] at h2
        simp only [List.getElem?_map, Option.map_eq_some_iff, DataW.lit.injEq, Lit.float.injEq, true_and] at h2
        obtain ⟨z', hz', rfl⟩ := h2
        simp [h1, hz']
      · rw [List.getElem?_eq_none (by omega), List.getElem?_eq_none (by simp; omega)]
    · cases h
theorem tabF_of_head {P : Program} {W : World} {name : String} {zs : List Nat} {rest : List (String × DataW Unit)} {g : Nat} {t e : TypeId} {n : Nat}
    (hg : P.globalNamed name = some g) (hty : (P.globals[g]?).map (·.type) = some t) (ht : P.underlying t = some (.array n e)) (he : P.underlying e = some (.float .f64)) (hce : P.cellsOf e = 1) (hct : P.cellsOf t = n)
    (h : laidMet P ((name, tabF zs) :: rest) W) : ∀ i z, zs[i]? = some z → W.cell? ⟨g, i, none⟩ = some (.float .f64 z) := by
  obtain ⟨ps, ⟨g', t', cs, fuel, p, q, hg', ht', hvar, hd, _, _⟩, _⟩ := h
  obtain rfl := Option.some.inj (hg.symm.trans hg')
  obtain rfl := Option.some.inj (hty.symm.trans ht')
  intro i z hz
  have hcs := cells_of_tabF ht he hce hct hd
  rw [World.var?_cell hg hvar i, ← Array.getElem?_toList, hcs, List.getElem?_map, hz]
  rfl
def sinZ : List Nat := [4460209587652500685, 13716528389658582877, 4523617212962785441, 13774824197404483331, 4575957461383575504, 13818544856648471880]
def cosZ : List Nat := [13666448263388469915, 4477121864728985349, 13732177093698800582, 4537941361668146421, 13787419979223748497, 4586165620538955083]
theorem SinC.of_laid {w : World} (h : laidMetH Tryd.prog Rows.hmacAllRow.laid w) : SinC w := by
  have h1 := laidMetH.filter (fun x => x.1 == "math._sin") h
  have e1 : Rows.hmacAllRow.laid.filter (fun x => x.1 == "math._sin") = [("math._sin", tabF sinZ)] := by rfl
  rw [e1, laidMetH_plain _ _ _ (by rfl)] at h1
  have h2 := laidMetH.filter (fun x => x.1 == "math._cos") h
  have e2 : Rows.hmacAllRow.laid.filter (fun x => x.1 == "math._cos") = [("math._cos", tabF cosZ)] := by rfl
  rw [e2, laidMetH_plain _ _ _ (by rfl)] at h2
  have k1 := tabF_of_head (g := 2) (t := 81) (e := 70) (n := 6) (by kernel_rfl) (by kernel_rfl) Tryd.underlying81 Tryd.underlying70 (by kernel_rfl) (by kernel_rfl) h1
  have k2 := tabF_of_head (g := 1) (t := 81) (e := 70) (n := 6) (by kernel_rfl) (by kernel_rfl) Tryd.underlying81 Tryd.underlying70 (by kernel_rfl) (by kernel_rfl) h2
  exact ⟨k2 0 _ rfl, k2 1 _ rfl, k2 2 _ rfl, k2 3 _ rfl, k2 4 _ rfl, k2 5 _ rfl, k1 0 _ rfl, k1 1 _ rfl, k1 2 _ rfl, k1 3 _ rfl, k1 4 _ rfl, k1 5 _ rfl⟩
theorem short_calls (w : World) (S : Nat → Prop) (A : Option Addr) (n c : Nat) (l : List UInt8) (hr : Reads w S A n (b8s l)) (hc : n ≤ c) :
    Calls Tryd.prog 8 #[.slice A n c] w fun en w' => ∃ m, en = .returned (.slice A m c) ∧ w' = w ∧ m ≤ c ∧ m ≤ 300 ∧ Reads w S A m (b8s (l.take 300)) := by
  obtain ⟨hi0, hz1, hz0⟩ := info_u8
  have hl : l.length = n := by have := hr.1; rwa [b8s_length] at this
  go_enter Tryd.func8, Tryd.ntmps8
  by_cases h : (300 : Int) < (n : Int)
  · have hrA := hr.take (k := 300) (by omega)
    rw [b8s_take] at hrA
    have H := Lib.hid hl
    clear hl
    go_wp2
    go_ret
    exact ⟨300, rfl, rfl, by omega, by omega, hrA⟩
  · go_wp2
    go_ret
    refine ⟨n, rfl, rfl, hc, by omega, ?_⟩
    rw [List.take_of_length_le (by omega)]
    exact hr
@[go_sem] theorem gA16 : Tryd.prog.eqGuardType Tryd.prog.depth 25 = false := by kernel_rfl
theorem sizeU8 (w : World) : (sizeOf 5).run Tryd.prog w = .ok 1 w := by
  obtain ⟨i, hi, hs⟩ := info_u8
  simp [sizeOf, typeInfo, hi, hs]
theorem eq16 (w : World) (xs ys : List UInt8) (hx : xs.length = 16) (hy : ys.length = 16) : (Op.equalIn 10000 25 (v16 xs) (v16 ys)).run Tryd.prog w = .ok (xs == ys) w :=
  run_equalIn_bytes w 9998 25 5 16 Tryd.underlying25 Tryd.underlying5 sizeU8 xs ys hx hy
theorem strB_beqI (x : List UInt8) : (strB x == strB x) = true := by
  exact (Go.MapKept.bytes_beq _ _).2 rfl
def jefe : List UInt8 := [74, 101, 102, 101]
def what : List UInt8 := [119, 104, 97, 116, 32, 100, 111, 32, 121, 97, 32, 119, 97, 110, 116, 32, 102, 111, 114, 32, 110, 111, 116, 104, 105, 110, 103, 63]
theorem hex_jefe : hexL (hmacP jefe what) = [55, 53, 48, 99, 55, 56, 51, 101, 54, 97, 98, 48, 98, 53, 48, 51, 101, 97, 97, 56, 54, 101, 51, 49, 48, 97, 53, 100, 98, 55, 51, 56] := by decide +kernel
set_option maxHeartbeats 4000000 in
set_option maxRecDepth 100000 in
theorem shown_calls (w : World) (hC : SinC w) : Calls Tryd.prog 7 #[] w fun en w' => en = .returned (.bool true) ∧ Kept w w' NoB := by
  have kc := fun (w : World) (C : Array Value) (n c : Nat) => Lib.run_convert_bytes_const (P := Tryd.prog) w 22 5 C n c Tryd.underlying22 Tryd.underlying5
  have HC := Lib.hid hC
  have hx := hex_jefe
  have HX := Lib.hid hx
  clear hC hx
  go_enter Tryd.func7, Tryd.ntmps7
  have hr1 := Reads.bytes w 5 jefe #[.int .u8 74, .int .u8 101, .int .u8 102, .int .u8 101] rfl (4, 5)
  have hr2 := Reads.bytes (w.alloc (.cells #[.int .u8 74, .int .u8 101, .int .u8 102, .int .u8 101] 5 (4, 5))) 5 what #[.int .u8 119, .int .u8 104, .int .u8 97, .int .u8 116, .int .u8 32, .int .u8 100, .int .u8 111, .int .u8 32, .int .u8 121, .int .u8 97, .int .u8 32, .int .u8 119, .int .u8 97, .int .u8 110, .int .u8 116, .int .u8 32, .int .u8 102, .int .u8 111, .int .u8 114, .int .u8 32, .int .u8 110, .int .u8 111, .int .u8 116, .int .u8 104, .int .u8 105, .int .u8 110, .int .u8 103, .int .u8 63] rfl (28, 29)
  have e1 : (w.alloc (.cells #[.int .u8 74, .int .u8 101, .int .u8 102, .int .u8 101] 5 (4, 5))).heap.size = w.heap.size + 1 := by simp
  rw [e1] at hr2
  have kc2 := kc (w.alloc (.cells #[.int .u8 74, .int .u8 101, .int .u8 102, .int .u8 101] 5 (4, 5))) #[.int .u8 119, .int .u8 104, .int .u8 97, .int .u8 116, .int .u8 32, .int .u8 100, .int .u8 111, .int .u8 32, .int .u8 121, .int .u8 97, .int .u8 32, .int .u8 119, .int .u8 97, .int .u8 110, .int .u8 116, .int .u8 32, .int .u8 102, .int .u8 111, .int .u8 114, .int .u8 32, .int .u8 110, .int .u8 111, .int .u8 116, .int .u8 104, .int .u8 105, .int .u8 110, .int .u8 103, .int .u8 63] 28 28
  rw [e1] at kc2
  clear e1
  have hk : Kept w ((w.alloc (.cells #[.int .u8 74, .int .u8 101, .int .u8 102, .int .u8 101] 5 (4, 5))).alloc (.cells #[.int .u8 119, .int .u8 104, .int .u8 97, .int .u8 116, .int .u8 32, .int .u8 100, .int .u8 111, .int .u8 32, .int .u8 121, .int .u8 97, .int .u8 32, .int .u8 119, .int .u8 97, .int .u8 110, .int .u8 116, .int .u8 32, .int .u8 102, .int .u8 111, .int .u8 114, .int .u8 32, .int .u8 110, .int .u8 111, .int .u8 116, .int .u8 104, .int .u8 105, .int .u8 110, .int .u8 103, .int .u8 63] 5 (28, 29))) NoB := ((Kept.refl w NoB).alloc _).alloc _
  have hs := hhex_calls ((w.alloc (.cells #[.int .u8 74, .int .u8 101, .int .u8 102, .int .u8 101] 5 (4, 5))).alloc (.cells #[.int .u8 119, .int .u8 104, .int .u8 97, .int .u8 116, .int .u8 32, .int .u8 100, .int .u8 111, .int .u8 32, .int .u8 121, .int .u8 97, .int .u8 32, .int .u8 119, .int .u8 97, .int .u8 110, .int .u8 116, .int .u8 32, .int .u8 102, .int .u8 111, .int .u8 114, .int .u8 32, .int .u8 110, .int .u8 111, .int .u8 116, .int .u8 104, .int .u8 105, .int .u8 110, .int .u8 103, .int .u8 63] 5 (28, 29))) _ _ (some ⟨w.heap.size, 0, none⟩) 4 4 jefe (some ⟨w.heap.size + 1, 0, none⟩) 28 28 what (hr1.alloc _) (by omega) (by omega) (by omega) hr2 (by omega) (HC.out.kept0 hk)
  rw [HX.out] at hs
  have HS := Lib.hid hs
  have HK := Lib.hid hk
  clear hr1 hr2 hs hk
  go_wp2_with fail
  (with_reducible refine HS.out.mono ?_)
  rintro en w1 ⟨rfl, hk1⟩
  have HK1 := Lib.hid (HK.out.trans' hk1)
  clear hk1 HS
  go_wp2_with fail
  go_ret
  exact ⟨rfl, HK1.out⟩
end Go.Proofs.YtadmebonmfhpgaaDoor
