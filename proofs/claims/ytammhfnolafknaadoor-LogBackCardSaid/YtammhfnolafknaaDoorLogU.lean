/- Two hex digits are a byte; a row of bytes is written into a builder. -/
import Derived.Test.YtammhfnolafknaaDoorLogV
import Derived.Lib.FrozenHead
import Derived.MapKept
import Derived.Shelf.Strings.BuilderK
set_option linter.unusedVariables false
set_option linter.unusedSimpArgs false
namespace Go.Proofs.YtammhfnolafknaaDoor
open Go.RowKit Go.Shelf

theorem ob_nil {k : Nat} : ¬ OB (Value.slice none 0 0) k := fun h => by simp [OB, Value.ownBlock] at h
theorem strB_beq (x y : List UInt8) : (strB x == strB y) = decide (x = y) := by
  by_cases h : x = y
  · subst h
    rw [decide_eq_true rfl]
    exact (Go.MapKept.bytes_beq _ _).2 rfl
  · rw [decide_eq_false h]
    cases hh : (strB x == strB y) with
    | false => rfl
    | true =>
      exact absurd (strB_inj ((Go.MapKept.bytes_beq _ _).1 hh)) h
def hexD (c : UInt8) : Option Nat := if 48 ≤ c.toNat ∧ c.toNat ≤ 57 then some (c.toNat - 48) else if 97 ≤ c.toNat ∧ c.toNat ≤ 102 then some (c.toNat - 87) else none
def hexI (c : UInt8) : Int := match hexD c with | some n => (n : Int) | none => -1
theorem hexD_lt {c : UInt8} {n : Nat} (h : hexD c = some n) : n < 16 := by
  unfold hexD at h
  split at h
  · injection h with h; omega
  · split at h
    · injection h with h; omega
    · cases h
theorem hexI_all : ∀ n < 256, Lib.indexByte hexS.data.toList (UInt8.ofNat n) = hexI (UInt8.ofNat n) := by decide +kernel
theorem hexI_at (c : UInt8) : Lib.indexByte hexS.data.toList c = hexI c := by
  have := hexI_all c.toNat c.toNat_lt
  simpa using this
theorem hexIndex_calls (x : Nat) (c : UInt8) (hx : c.toNat = x) (n : Int) (hn : hexI c = n) (w : World) :
    Calls Tryd.prog 44 #[.string hexS, .int .u8 (x : Int)] w fun e w' => e = .returned (.int .i64 n) ∧ w' = w := by
  subst hx hn
  have h := Any.strings_IndexByte shLays137 hexS (c.toNat : Int) w
  rw [show ((c.toNat : Int).toNat.toUInt8) = c by simp, hexI_at] at h
  exact h
def unL (l : List UInt8) : Option UInt8 :=
  match l with
  | [a, b] => match hexD a, hexD b with | some x, some y => some (UInt8.ofNat (x * 16 + y)) | _, _ => none
  | _ => none
theorem or4 (n v : Nat) (hn : n < 16) (hv : v < 16) : bits .or .i64 ((n : Int) * 16) (v : Int) = ((n * 16 + v : Nat) : Int) := by
  have h : ∀ n : Fin 16, ∀ v : Fin 16, bits .or .i64 ((n.val : Int) * 16) (v.val : Int) = ((n.val * 16 + v.val : Nat) : Int) := by decide +kernel
  exact h ⟨n, hn⟩ ⟨v, hv⟩
theorem info_u8 : (Tryd.prog.info? 5).map (fun i => (i.zero, i.size, i.bytes)) = some (some (.int .u8 0), 1, 1) := by kernel_rfl
def UnS (w0 : World) (l0 : List UInt8) (gk : Nat) (v0 v4 : Value) (wr : World) : Prop :=
  (gk = 1 ∧ v0 = .string (strB l0) ∧ v4 = .slice none 0 0 ∧ Kept w0 wr NoB) ∨ (gk = 0 ∧ v0 = .string (strB []) ∧ Kept w0 wr NoB ∧ ∃ v, unL l0 = some v ∧ Row wr 5 (fun k => w0.heap.size ≤ k) v4 (b8s [v]))
set_option maxHeartbeats 8000000 in
set_option maxRecDepth 100000 in
theorem unhex_calls (w : World) (l0 : List UInt8) (hl : l0.length ≤ 2) :
    Calls Tryd.prog 29 #[.string (strB l0)] w fun en w' => ∃ A n c ok, en = .returned (.tuple #[.slice A n c, .bool ok]) ∧ Kept w w' NoB ∧ ((unL l0 = none ∧ (ok = false ∨ n = 0)) ∨ ∃ v, unL l0 = some v ∧ ok = true ∧ n = 1 ∧ Reads w' (fun k => w.heap.size ≤ k) A 1 (b8s [v])) := by
  go_enter Tryd.func29, Tryd.ntmps29
  go_wp2_with fail
  go_loopg [0, 4] 1 (fun gk v0 v4 wr => UnS w l0 gk v0 v4 wr)
  case atStart => exact .inl ⟨rfl, rfl, rfl, Kept.refl _ _⟩
  case round =>
    rcases hrel with ⟨hgk, rfl, rfl, hkr⟩ | ⟨hgk, rfl, hkr, v, hv, hrow⟩
    · have HG := Lib.hid hgk
      have HKR := Lib.hid hkr
      clear hgk hkr
      rcases l0 with _ | ⟨a, _ | ⟨b, _ | ⟨z, r⟩⟩⟩
      · have hsz : (strB []).size = 0 := rfl
        have hemp : (strB [] == (⟨#[]⟩ : ByteArray)) = true := by decide
        have hemp' : (strB [] != (⟨#[]⟩ : ByteArray)) = false := by decide
        go_wp2_with fail
        go_ret2
        exact ⟨none, 0, 0, true, rfl, HKR.out, .inl ⟨rfl, .inr rfl⟩⟩
      · have hsz : (strB [a]).size = 1 := rfl
        have hemp : (strB [a] == (⟨#[]⟩ : ByteArray)) = false := (strB_beq [a] []).trans (decide_eq_false (by simp))
        have hemp' : (strB [a] != (⟨#[]⟩ : ByteArray)) = true := by rw [bne, hemp]; rfl
        go_wp2_with fail
        go_ret2
        exact ⟨none, 0, 0, false, rfl, HKR.out, .inl ⟨rfl, .inl rfl⟩⟩
      · have hsz : (strB [a, b]).size = 2 := rfl
        have ha0 : ∀ h, ((strB [a, b])[0]'h) = a := fun h => strB_getI [a, b] 0 h
        have hb0 : ∀ h, ((strB [a, b])[1]'h) = b := fun h => strB_getI [a, b] 1 h
        obtain ⟨L, hL⟩ : ∃ L, strB [a, b] = L := ⟨_, rfl⟩
        have hcut : L.extract 2 2 = strB [] := by rw [← hL]; rfl
        simp only [hL] at ha0 hb0
        rw [hL] at hsz
        have hunL : unL [a, b] = match hexD a, hexD b with | some x, some y => some (UInt8.ofNat (x * 16 + y)) | _, _ => none := rfl
        obtain ⟨xa, hxa⟩ : ∃ x : Nat, a.toNat = x := ⟨_, rfl⟩
        obtain ⟨xb, hxb⟩ : ∃ x : Nat, b.toNat = x := ⟨_, rfl⟩
        have z0 : (0 : Nat) < L.size := by omega
        have z1 : (1 : Nat) < L.size := by omega
        have i0 : (L[0]'z0).toNat = xa := (congrArg UInt8.toNat (ha0 z0)).trans hxa
        have i1 : (L[1]'z1).toNat = xb := (congrArg UInt8.toNat (hb0 z1)).trans hxb
        rw [hL]
        cases hda : hexD a with
        | none =>
          rw [hda] at hunL
          have hia : hexI a = -1 := by unfold hexI; rw [hda]
          obtain ⟨nb, hnb⟩ : ∃ n, hexI b = n := ⟨_, rfl⟩
          have H1 := Lib.hid (fun W => hexIndex_calls xa a hxa _ hia W)
          have H2 := Lib.hid (fun W => hexIndex_calls xb b hxb _ hnb W)
          have HU : Hid (unL [a, b] = none) := hunL
          clear hunL hia hnb hda hL ha0 hb0 hxa hxb hcut
          go_wp2_with fail
          go_quiet (first | exact Calls.quiet_of_same (H1.out _) | exact Calls.quiet_of_same (H2.out _))
          go_wp2_with fail
          go_ret2
          exact ⟨none, 0, 0, false, rfl, HKR.out.drewN _, .inl ⟨HU.out, .inl rfl⟩⟩
        | some x =>
          cases hdb : hexD b with
          | none =>
            rw [hda, hdb] at hunL
            have hia : hexI a = (x : Int) := by unfold hexI; rw [hda]
            have hib : hexI b = -1 := by unfold hexI; rw [hdb]
            have H1 := Lib.hid (fun W => hexIndex_calls xa a hxa _ hia W)
            have H2 := Lib.hid (fun W => hexIndex_calls xb b hxb _ hib W)
            have HU : Hid (unL [a, b] = none) := hunL
            have hx0 : ¬ ((x : Int) < 0) := by omega
            clear hunL hia hib hda hdb hL ha0 hb0 hxa hxb hcut
            go_wp2_with fail
            go_quiet (first | exact Calls.quiet_of_same (H1.out _) | exact Calls.quiet_of_same (H2.out _))
            go_wp2_with fail
            go_ret2
            exact ⟨none, 0, 0, false, rfl, HKR.out.drewN _, .inl ⟨HU.out, .inl rfl⟩⟩
          | some y =>
            rw [hda, hdb] at hunL
            have hia : hexI a = (x : Int) := by unfold hexI; rw [hda]
            have hib : hexI b = (y : Int) := by unfold hexI; rw [hdb]
            have H1 := Lib.hid (fun W => hexIndex_calls xa a hxa _ hia W)
            have H2 := Lib.hid (fun W => hexIndex_calls xb b hxb _ hib W)
            have HU : Hid (unL [a, b] = some (UInt8.ofNat (x * 16 + y))) := hunL
            have hx0 : ¬ ((x : Int) < 0) := by omega
            have hy0 : ¬ ((y : Int) < 0) := by omega
            have hx16 := hexD_lt hda
            have hy16 := hexD_lt hdb
            have hor := or4 x y hx16 hy16
            obtain ⟨v, hv⟩ : ∃ v, x * 16 + y = v := ⟨_, rfl⟩
            rw [hv] at hor HU
            have hv8 : v < 256 := by omega
            clear hunL hia hib hda hdb hL ha0 hb0 hxa hxb hv
            go_wp2_with fail
            go_quiet (first | exact Calls.quiet_of_same (H1.out _) | exact Calls.quiet_of_same (H2.out _))
            have HKD := Lib.hid (HKR.out.drewN nq)
            have HNIL := Lib.hid (Row.nil (wr.drewN nq) 5 (fun k => w.heap.size ≤ k))
            have hszd := (HKR.out.drewN nq).size
            go_wp2_with (at_builtin; refine wpList_app1 (W := wr.drewN nq) rfl _ _ 41 5 (.int .u8 0) 1 rfl Tryd.underlying41 info_u8 rfl (by decide) (fun k => w.heap.size ≤ k) (.slice none 0 0) [] (.int .u8 (v : Int)) rfl rfl rfl HNIL.out (fun k hk => Nat.le_trans hszd hk) (by decide) ?_; intro v1 w1 hown hkp hob)
            have HKP := Lib.hid hkp
            have HOWN := Lib.hid hown
            clear hkp hown hob
            go_wp2_with fail
            go_roundg 0
            case measure => have := HG.out; omega
            case rel =>
              refine .inr ⟨rfl, rfl, HKD.out.trans HKP.out fun k hk => absurd hk ob_nil, UInt8.ofNat v, HU.out, ?_⟩
              have e : b8s [UInt8.ofNat v] = [] ++ [.int .u8 (v : Int)] := by simp [b8s, B8]; omega
              rw [e]
              exact HOWN.out
      · simp at hl
    · obtain ⟨A, c, rfl, hc, hrd⟩ := hrow.readsN (n := 1) rfl
      have HRD := Lib.hid hrd
      have HKR := Lib.hid hkr
      have HV := Lib.hid hv
      have hsz : (strB []).size = 0 := rfl
      have hemp : (strB [] == (⟨#[]⟩ : ByteArray)) = true := by decide
      have hemp' : (strB [] != (⟨#[]⟩ : ByteArray)) = false := by decide
      clear hgk hrow hrd hkr hv
      go_wp2_with fail
      go_ret2
      exact ⟨A, 1, c, true, rfl, HKR.out, .inr ⟨v, HV.out, rfl, rfl, HRD.out⟩⟩
/-! ### A row of bytes written into a builder -/
theorem copyCheck_keep1 (b : Nat) (l : List UInt8) (w : World) (h : Bld w b l) :
    Calls Tryd.prog 40 #[.pointer (some ⟨b, 0, none⟩)] w fun e w' => e = .returned (.tuple #[]) ∧ Lib.BuilderAt 43 5 b b (.pointer (some ⟨b, 0, none⟩)) (Lib.byteCells l) w' ∧ Kept w w' (fun k => k = b) := by
  have X : Builder.X72 Tryd.prog shRen240 := { sizeBuilder := by kernel_rfl, liesBuilder := by kernel_rfl }
  rcases h with h | h
  · refine (Any.Builder_copyCheck_fresh shLays240 X b w h.cell0 h.shape h.frozen0).mono ?_
    rintro e w' ⟨rfl, rfl⟩
    exact ⟨rfl, h.used _, (Kept.refl w (fun k => k = b)).setCell (p := ⟨b, 0, none⟩) (.inl rfl) _⟩
  · refine (Any.Builder_copyCheck_used shLays240 X b w h.cell0).mono ?_
    rintro e w' ⟨rfl, rfl⟩
    exact ⟨rfl, h, Kept.refl _ _⟩
theorem Kept.below_b {w w' : World} {b : Nat} (h : Kept w w' (fun k => k = b)) (hb : b < w.heap.size) : Below b w w' := ⟨h.os, h.tape, h.output, h.size, fun i hi => h.block i (by omega) (by omega)⟩
set_option maxHeartbeats 2000000 in
set_option maxRecDepth 100000 in
theorem write_calls (b : Nat) (l m : List UInt8) (w : World) (h : Bld w b l) (S : Nat → Prop) (ad : Addr) (n c : Nat) (hn : m.length = n) (hA : ∀ j u, (b8s m)[j]? = some u → w.cell? (ad.add j) = some u) (hAb : ad.block ≠ b) (hAw : ad.block < w.heap.size) (hlen : l.length + m.length ≤ 140737488355328) :
    Calls Tryd.prog 30 #[.pointer (some ⟨b, 0, none⟩), .slice (some ad) n c] w fun e w' => e = .returned (.tuple #[.int .i64 (n : Int), .nilIface]) ∧ Bld w' b (l ++ m) ∧ Below b w w' := by
  have hlt0 := h.lt
  have HBW := Lib.hid h
  have HA := Lib.hid hA
  subst hn
  clear h hA
  obtain ⟨i0, hi, hz0, hz1, hz2⟩ := info_parts info_u8
  go_enter Tryd.func30, Tryd.ntmps30
  go_wp2_with fail
  refine (copyCheck_keep1 b l w HBW.out).mono ?_
  rintro e w1 ⟨rfl, h1, hk1⟩
  obtain ⟨hB, v, hbk, hown, hne⟩ := h1
  have c0 : w1.cell? ⟨b, 0, none⟩ = some (.pointer (some ⟨b, 0, none⟩)) := by rw [Lib.cell_of_heap hbk]; rfl
  have c1 : w1.cell? ⟨b, 1, none⟩ = some v := by rw [Lib.cell_of_heap hbk]; rfl
  have hs1 := hk1.size
  have HN1 : Hid (∀ j u, (b8s m)[j]? = some u → w1.cell? (ad.add j) = some u) := fun j u hj => hk1.cell (HA.out j u hj) (by rw [block_add]; exact hAb)
  have HBE := Lib.hid (hk1.below_b hlt0)
  have HBK := Lib.hid hbk
  have HNE := Lib.hid hne
  have HOWN := Lib.hid hown
  have h63 : (Lib.byteCells l).length + m.length ≤ 140737488355328 := by rw [Lib.byteCells_length]; exact hlen
  have h64 : (Lib.byteCells l).length + m.length ≤ maxLen := by unfold maxLen; omega
  have hbw1 : b ≤ w1.heap.size := by omega
  have hone : ∀ u ∈ b8s m, u.oneCell' = true := fun u hu => by
    unfold b8s B8 at hu
    obtain ⟨x, _, rfl⟩ := List.mem_map.1 hu
    rfl
  have HONE := Lib.hid hone
  clear hk1 hbk hne hown hone
  go_wp2_with (at_builtin; refine wpList_append_own _ rfl _ _ 41 rfl b 5 i0 (.int .u8 0) 1 1 Tryd.underlying41 hi hz0 hz1 hz2 rfl (by decide) _ _ _ rfl HOWN.out ad m.length c (b8s m) rfl (by rw [b8s_length, Nat.mul_one]) HN1.out HONE.out h64 (by rw [Nat.mul_one]; exact h63) hbw1 ?_)
  intro v' w2 hown' hgrow hnil
  have hlt : b < w1.heap.size := by omega
  have hb2 : w2.heap[b]? = some (.cells #[.pointer (some ⟨b, 0, none⟩), v] 43 (0, 0)) := by
    rw [hgrow.block b hlt (fun e => HNE.out e.symm)]
    exact HBK.out
  have d0 : w2.cell? ⟨b, 0, none⟩ = some (.pointer (some ⟨b, 0, none⟩)) := by rw [Lib.cell_of_heap hb2]; rfl
  have d1 : w2.cell? ⟨b, 1, none⟩ = some v := by rw [Lib.cell_of_heap hb2]; rfl
  have f1 : w2.frozen? ⟨b, 1, none⟩ = false := Lib.frozen_of_heap hb2 1
  obtain ⟨ao, n', cap, rfl⟩ : ∃ ao n' cap, v' = .slice ao n' cap := by
    rcases hown'.2 with ⟨hv, _⟩ | ⟨g, cap, cur, hv, _⟩
    · exact ⟨_, _, _, hv⟩
    · exact ⟨_, _, _, hv⟩
  have HBE2 := Lib.hid (HBE.out.grown hgrow hbw1 (fun k hk => (HOWN.out.lt k hk).1))
  have HOWN2 := Lib.hid hown'
  have HB2 := Lib.hid hb2
  clear hown' hgrow hb2 hnil
  go_wp2_with fail
  go_ret2
  refine ⟨rfl, ?_, ?_⟩
  · refine Bld.of_at rfl ?_
    rw [show Lib.byteCells (l ++ m) = Lib.byteCells l ++ b8s m by simp [Lib.byteCells, b8s, B8]]
    exact Lib.BuilderAt.put (T := 43) (e := 5) (Nat.le_refl b) HB2.out (bs' := Lib.byteCells l ++ b8s m) (by have h := HOWN2.out; rw [List.length_append, b8s_length]; exact h) (by decide)
  · exact HBE2.out.setCell (p := ⟨b, 1, none⟩) (Nat.le_refl b) _
end Go.Proofs.YtammhfnolafknaaDoor
