/- Transcripts: builders, digits, how a text is shown: what the program computes. -/
import Derived.Test.YtammhfnolafknaaDoorW
import Derived.Test.YtammhfnolafknaaDoorShG
import Derived.Lib.LaidTab
import Derived.KernelRfl
import Derived.Deep.RegionHeld3
import Derived.Laws.BitsAllLaws
import Derived.Outline
set_option linter.unusedVariables false
set_option linter.unusedSimpArgs false
namespace Go.Proofs.YtammhfnolafknaaDoor
open Go.RowKit Go.Shelf Go.Lib Go.Sort

theorem strB_cut (L : List UInt8) (i j : Nat) : (strB L).extract i j = strB ((L.drop i).take (j - i)) := by
  apply ByteArray.ext
  simp [strB, ByteArray.data_extract, List.extract_toArray, List.extract_eq_take_drop]
theorem strB_of (s : ByteArray) : ∃ l, s = strB l ∧ l.length = s.size := ⟨s.data.toList, (strB_data s).symm, by rw [Array.length_toList]; rfl⟩
theorem strB_getI (l : List UInt8) (i : Nat) (h : i < (strB l).size) : (strB l)[i] = l[i]'(by rwa [strB_size] at h) := by
  rfl
theorem strB_app (l m : List UInt8) : strB l ++ strB m = strB (l ++ m) := by
  apply ByteArray.ext
  simp [strB]
theorem strs_at (ls : List (List UInt8)) (k : Nat) (h : k < ls.length) : (strs ls)[k]? = some (.string (strB ls[k])) := by simp [strs, List.getElem?_eq_getElem h]

/-! ### A builder -/
theorem bE167 : Builder.Extra Tryd.prog shRen167 where
  sizeBuilder := by kernel_rfl
  liesBuilder := by kernel_rfl
  t5 := Tryd.underlying5
  a5 := Tryd.isAgg5
  z5 := Tryd.sizeOf5
  v5 := Tryd.zeroValue5
  infoByte := by kernel_rfl
  cellsByte := by kernel_rfl
  sizeByte := by kernel_rfl
  neB5 := by decide
theorem bE166 : Builder.Extra Tryd.prog shRen166 where
  sizeBuilder := by kernel_rfl
  liesBuilder := by kernel_rfl
  t5 := Tryd.underlying5
  a5 := Tryd.isAgg5
  z5 := Tryd.sizeOf5
  v5 := Tryd.zeroValue5
  infoByte := by kernel_rfl
  cellsByte := by kernel_rfl
  sizeByte := by kernel_rfl
  neB5 := by decide
theorem bE169 : Builder.Extra Tryd.prog shRen169 where
  sizeBuilder := by kernel_rfl
  liesBuilder := by kernel_rfl
  t5 := Tryd.underlying5
  a5 := Tryd.isAgg5
  z5 := Tryd.sizeOf5
  v5 := Tryd.zeroValue5
  infoByte := by kernel_rfl
  cellsByte := by kernel_rfl
  sizeByte := by kernel_rfl
  neB5 := by decide
theorem bE156 : Builder.Extra Tryd.prog shRen156 where
  sizeBuilder := by kernel_rfl
  liesBuilder := by kernel_rfl
  t5 := Tryd.underlying5
  a5 := Tryd.isAgg5
  z5 := Tryd.sizeOf5
  v5 := Tryd.zeroValue5
  infoByte := by kernel_rfl
  cellsByte := by kernel_rfl
  sizeByte := by kernel_rfl
  neB5 := by decide
/-- Block b is a builder of the call's own (made at b), that holds these bytes. -/
def Bld (w : World) (b : Nat) (l : List UInt8) : Prop := Lib.IsBuilder 43 5 b b (Lib.byteCells l) w
theorem Bld.new (w : World) : Bld (w.alloc (.cells #[.pointer none, .slice none 0 0] 43)) w.heap.size [] := Lib.fresh_isBuilder _ _ _
theorem Bld.kept0 {w w' : World} {b : Nat} {l : List UInt8} (h : Bld w b l) (k : Kept w w' NoB) : Bld w' b l := by
  have own : ∀ {v : Value} {n : Nat} {xs : List Value}, w.ownsRow b 5 1 v n xs → w'.ownsRow b 5 1 v n xs := by
    intro v n xs h
    refine ⟨h.1, ?_⟩
    rcases h.2 with h2 | ⟨g, cap, cur, rfl, hb, hh, r⟩
    · exact .inl h2
    · exact .inr ⟨g, cap, cur, rfl, hb, k.heap hh fun x => x, r⟩
  rcases h with ⟨hB, v, hb, hown, hne⟩ | ⟨hB, v, hb, hown, hne⟩
  · exact .inl ⟨hB, v, k.heap hb fun x => x, own hown, hne⟩
  · exact .inr ⟨hB, v, k.heap hb fun x => x, own hown, hne⟩
theorem Bld.lt {w : World} {b : Nat} {l : List UInt8} (h : Bld w b l) : b < w.heap.size := by
  rcases h with ⟨hB, v, hb, hown, hne⟩ | ⟨hB, v, hb, hown, hne⟩ <;> exact (Array.getElem?_eq_some_iff.1 hb).1
theorem Bld.of_at {w : World} {b : Nat} {p : Value} {l : List UInt8} (hp : p = .pointer (some ⟨b, 0, none⟩)) (h : Lib.BuilderAt 43 5 b b p (Lib.byteCells l) w) : Bld w b l := by
  subst hp
  exact .inr h
theorem writeByte_calls (b : Nat) (l : List UInt8) (c : UInt8) (w : World) (h : Bld w b l) (hlen : l.length + 1 ≤ 140737488355328) :
    Calls Tryd.prog 27 #[.pointer (some ⟨b, 0, none⟩), .int .u8 (c.toNat : Int)] w fun e w' => e = .returned .nilIface ∧ Bld w' b (l ++ [c]) ∧ Below b w w' := by
  refine (Any.Builder_WriteByte shLays167 bE167 b b (Lib.byteCells l) (c.toNat : Int) w h (by rw [Lib.byteCells_length]; exact hlen) (Nat.le_of_lt h.lt)).mono fun e w' r => ⟨r.1, ?_, r.2.2⟩
  refine Bld.of_at rfl ?_
  have := r.2.1
  rw [show Lib.byteCells (l ++ [c]) = Lib.byteCells l ++ [.int .u8 (c.toNat : Int)] by simp [Lib.byteCells]]
  exact this
theorem writeString_calls (b : Nat) (l m : List UInt8) (w : World) (h : Bld w b l) (hlen : l.length + m.length ≤ 140737488355328) :
    Calls Tryd.prog 22 #[.pointer (some ⟨b, 0, none⟩), .string (strB m)] w fun e w' => e = .returned (.tuple #[.int .i64 (m.length : Int), .nilIface]) ∧ Bld w' b (l ++ m) ∧ Below b w w' := by
  refine (Any.Builder_WriteString shLays166 bE166 b b (Lib.byteCells l) (strB m) w h (by rw [Lib.byteCells_length, strB_size]; exact hlen) (Nat.le_of_lt h.lt)).mono fun e w' r => ⟨by rw [r.1, strB_size], ?_, r.2.2⟩
  refine Bld.of_at rfl ?_
  have := r.2.1
  rw [show Lib.byteCells (l ++ m) = Lib.byteCells l ++ Lib.strCells (strB m) by simp [Lib.byteCells, Lib.strCells, strB]]
  exact this
theorem bldString_calls (b : Nat) (l : List UInt8) (w : World) (h : Bld w b l) :
    Calls Tryd.prog 25 #[.pointer (some ⟨b, 0, none⟩)] w fun e w' => e = .returned (.string (strB l)) ∧ Below b w w' :=
  Any.Builder_String_any shLays169 bE169 b b l w h (Nat.le_of_lt h.lt)

/-- What a write into a builder leaves: all blocks but the builder's own and rows of bytes. -/
def BldS (w : World) (b : Nat) : Nat → Prop := fun k => k = b ∨ (b ≤ k ∧ ∃ cur fr, w.heap[k]? = some (.cells cur 5 fr))
theorem Kept.below_of {w w' : World} {b : Nat} (h : Kept w w' (BldS w b)) (hb : b < w.heap.size) : Below b w w' := ⟨h.os, h.tape, h.output, h.size, fun i hi => by
  exact h.block i (by omega) fun e => by rcases e with e | e <;> omega⟩
theorem copyCheck_keep (b : Nat) (l : List UInt8) (w : World) (h : Bld w b l) :
    Calls Tryd.prog 40 #[.pointer (some ⟨b, 0, none⟩)] w fun e w' => e = .returned (.tuple #[]) ∧ Lib.BuilderAt 43 5 b b (.pointer (some ⟨b, 0, none⟩)) (Lib.byteCells l) w' ∧ Kept w w' (BldS w b) := by
  have X : Builder.X72 Tryd.prog shRen240 := { sizeBuilder := by kernel_rfl, liesBuilder := by kernel_rfl }
  rcases h with h | h
  · refine (Any.Builder_copyCheck_fresh shLays240 X b w h.cell0 h.shape h.frozen0).mono ?_
    rintro e w' ⟨rfl, rfl⟩
    exact ⟨rfl, h.used _, (Kept.refl w _).setCell (p := ⟨b, 0, none⟩) (.inl (.inl rfl)) _⟩
  · refine (Any.Builder_copyCheck_used shLays240 X b w h.cell0).mono ?_
    rintro e w' ⟨rfl, rfl⟩
    exact ⟨rfl, h, Kept.refl _ _⟩
set_option maxHeartbeats 2000000 in
set_option maxRecDepth 100000 in
theorem writeString_keep (b : Nat) (l m : List UInt8) (w : World) (h : Bld w b l) (hlen : l.length + m.length ≤ 140737488355328) :
    Calls Tryd.prog 22 #[.pointer (some ⟨b, 0, none⟩), .string (strB m)] w fun e w' => e = .returned (.tuple #[.int .i64 (m.length : Int), .nilIface]) ∧ Bld w' b (l ++ m) ∧ Below b w w' ∧ Kept w w' (BldS w b) := by
  have hlt0 := h.lt
  have HBW := Lib.hid h
  clear h
  obtain ⟨i0, hi, hz0, hz1, hz2⟩ := info_parts (show (Tryd.prog.info? 5).map (fun i => (i.zero, i.size, i.bytes)) = some (some (.int .u8 0), 1, 1) by kernel_rfl)
  go_enter Tryd.func22, Tryd.ntmps22
  go_wp2_with fail
  refine (copyCheck_keep b l w HBW.out).mono ?_
  rintro e w1 ⟨rfl, h1, hk1⟩
  obtain ⟨hB, v, hbk, hown, hne⟩ := h1
  have c0 : w1.cell? ⟨b, 0, none⟩ = some (.pointer (some ⟨b, 0, none⟩)) := by rw [Lib.cell_of_heap hbk]; rfl
  have c1 : w1.cell? ⟨b, 1, none⟩ = some v := by rw [Lib.cell_of_heap hbk]; rfl
  have hs1 := hk1.size
  have hss : (strB m).size = m.length := strB_size m
  have HK1 := Lib.hid hk1
  have HBK := Lib.hid hbk
  have HNE := Lib.hid hne
  have HOWN := Lib.hid hown
  have h63 : (Lib.byteCells l).length + (strB m).size ≤ 140737488355328 := by rw [Lib.byteCells_length, strB_size]; exact hlen
  have h64 : (Lib.byteCells l).length + (strB m).size ≤ maxLen := by unfold maxLen; omega
  have hbw1 : b ≤ w1.heap.size := by omega
  clear hk1 hbk hne hown hss
  go_wp2_with (at_builtin; refine Lib.wpList_append_own_string _ rfl _ _ 41 9 rfl b 5 i0 Tryd.underlying41 Tryd.underlying9 hi hz0 hz1 hz2 _ _ _ rfl HOWN.out (strB m) rfl h64 h63 hbw1 ?_)
  intro v' w2 hown' hgrow hnil
  have hlt : b < w1.heap.size := by omega
  have hb2 : w2.heap[b]? = some (.cells #[.pointer (some ⟨b, 0, none⟩), v] 43 (0, 0)) := by
    rw [hgrow.block b hlt (fun e => HNE.out e.symm)]
    exact HBK.out
  have d0 : w2.cell? ⟨b, 0, none⟩ = some (.pointer (some ⟨b, 0, none⟩)) := by rw [Lib.cell_of_heap hb2]; rfl
  have d1 : w2.cell? ⟨b, 1, none⟩ = some v := by rw [Lib.cell_of_heap hb2]; rfl
  have f1 : w2.frozen? ⟨b, 1, none⟩ = false := Lib.frozen_of_heap hb2 1
  obtain ⟨ao, n', cap, rfl⟩ : ∃ ao n' cap, v' = .slice ao n' cap := by
    rcases hown'.2 with ⟨hv, _⟩ | ⟨g, cap, cur, hv, _⟩
    · exact ⟨_, _, _, hv⟩
    · exact ⟨_, _, _, hv⟩
  have hk2 : Kept w w2 (BldS w b) := by
    refine HK1.out.grown hgrow ?_
    intro k hk
    rcases HOWN.out.2 with ⟨rfl, _⟩ | ⟨g, cap, cur, rfl, hbg, hg, _⟩
    · simp [Value.ownBlock] at hk
    · have hgk : g = k := by simpa [Value.ownBlock] using hk
      subst hgk
      rcases Nat.lt_or_ge g w.heap.size with hlt' | hge'
      · by_cases hgb : g = b
        · exact .inl (.inl hgb)
        · left
          by_cases hS : BldS w b g
          · exact hS
          · exact .inr ⟨hbg, cur, (0, 0), (HK1.out.block g hlt' hS).symm.trans hg⟩
      · exact .inr hge'
  have HK2 := Lib.hid hk2
  have HOWN2 := Lib.hid hown'
  have HB2 := Lib.hid hb2
  have HSZ : w.heap.size ≤ w2.heap.size := hk2.size
  clear hown' hgrow hk2 hb2 hnil
  go_wp2_with fail
  go_ret2
  refine ⟨rfl, ?_, ?_, ?_⟩
  · refine Bld.of_at rfl ?_
    rw [show Lib.byteCells (l ++ m) = Lib.byteCells l ++ Lib.strCells (strB m) by simp [Lib.byteCells, Lib.strCells, strB]]
    exact Lib.BuilderAt.put (T := 43) (e := 5) (Nat.le_refl b) HB2.out (bs' := Lib.byteCells l ++ Lib.strCells (strB m)) (by have h := HOWN2.out; rw [List.length_append, Lib.strCells_length]; exact h) (by decide)
  · exact (HK2.out.setCell (p := ⟨b, 1, none⟩) (.inl (.inl rfl)) _).below_of hlt0
  · exact HK2.out.setCell (p := ⟨b, 1, none⟩) (.inl (.inl rfl)) _

/-! ### Digits of a number -/
def PowT (w : World) : Prop := Lib.TabIs Tryd.prog w "internal/strconv.uint64pow10" .u64 Lib.pow10Tab
theorem PowT.kept0 {w w' : World} (h : PowT w) (k : Kept w w' NoB) : PowT w' := by
  unfold PowT Lib.TabIs World.var? at h ⊢
  have hg : Tryd.prog.globalNamed "internal/strconv.uint64pow10" = some 3 := by kernel_rfl
  rw [hg, Option.bind_some] at h ⊢
  cases hh : w.heap[3]? with
  | none => rw [hh] at h; cases h
  | some o =>
    rw [hh] at h
    rw [k.heap hh fun x => x]
    exact h
theorem digits_calls (w : World) (n : Int) (h0 : -9223372036854775808 ≤ n) (h1 : n ≤ 9223372036854775807) (hp : PowT w) :
    Calls Tryd.prog 24 #[.int .i64 n] w fun en w' => en = .returned (.string (strB (itoa n))) ∧ Kept w w' NoB := by
  go_enter Tryd.func24, Tryd.ntmps24
  go_wp2_with fail
  refine (Any.strconv_Itoa shLaysM171 n h0 h1 w hp).mono ?_
  rintro en w1 ⟨rfl, k, os, rfl⟩
  have hk : Kept w (grow (w.drewN k) os) NoB := ⟨rfl, rfl, rfl, by simp [grow, World.drewN], fun i hi _ => by
    have : i < (w.drewN k).heap.size := hi
    show ((w.drewN k).heap ++ os)[i]? = _
    rw [Array.getElem?_append_left this]
    rfl⟩
  have HK := Lib.hid hk
  clear hk
  generalize grow (w.drewN k) os = w1 at HK ⊢
  go_wp2_with fail
  go_ret
  exact ⟨rfl, HK.out⟩

/-! ### Hexadecimal digits -/
def hexC (n : Nat) : UInt8 := if n < 10 then UInt8.ofNat (48 + n) else UInt8.ofNat (87 + n)
def hex2 (c : UInt8) : List UInt8 := [hexC (c.toNat / 16), hexC (c.toNat % 16)]
def hexL (l : List UInt8) : List UInt8 := l.flatMap hex2
abbrev hexS : ByteArray := ⟨#[48, 49, 50, 51, 52, 53, 54, 55, 56, 57, 97, 98, 99, 100, 101, 102]⟩
theorem hexS_at : ∀ k : Fin 16, (hexS[k.val]'(by have := k.isLt; show k.val < 16; omega)) = hexC k.val := by decide +kernel
theorem hexAt (x : Nat) (h : x < 16) (h' : x < hexS.size) : hexS[x]'h' = hexC x := by rw [← hexS_at ⟨x, h⟩]
theorem hexS_size : hexS.size = 16 := rfl
theorem and15 (x : Nat) (h : x < 256) : bits .and .u8 (x : Int) 15 = ((x % 16 : Nat) : Int) := by
  have := u8_and_nat x 15 h (by omega)
  rw [show x &&& 15 = x % 16 from Nat.and_two_pow_sub_one_eq_mod x 4] at this
  exact this
theorem hexL_snoc (l : List UInt8) {i : Nat} (h : i < l.length) : hexL (l.take (i + 1)) = (hexL (l.take i) ++ [hexC (l[i].toNat / 16)]) ++ [hexC (l[i].toNat % 16)] := by
  unfold hexL
  rw [List.take_succ_eq_append_getElem h, List.flatMap_append]
  simp [hex2]
theorem hexL_len (l : List UInt8) : (hexL l).length = 2 * l.length := by
  unfold hexL
  induction l with
  | nil => rfl
  | cons c l ih => rw [List.flatMap_cons, List.length_append, ih]; simp [hex2]; omega
def HxS (w0 : World) (S : Nat → Prop) (A : Option Addr) (n : Nat) (l : List UInt8) (gk : Nat) (v : Value) (wr : World) : Prop :=
  ∃ i, i ≤ n ∧ gk = n - i ∧ v = .int .i64 (i : Int) ∧ Bld wr w0.heap.size (hexL (l.take i)) ∧ Below w0.heap.size w0 wr
set_option maxHeartbeats 2000000 in
set_option maxRecDepth 100000 in
theorem hex_calls (w : World) (S : Nat → Prop) (A : Option Addr) (n c : Nat) (l : List UInt8) (hA : Reads w S A n (b8s l)) (hn : n ≤ 1099511627776) :
    Calls Tryd.prog 26 #[.slice A n c] w fun en w' => en = .returned (.string (strB (hexL l))) ∧ Kept w w' NoB := by
  have hln : l.length = n := by have := hA.1; rwa [b8s_length] at this
  have HLN := Lib.hid hln
  have HA := Lib.hid hA
  clear hln hA
  go_enter Tryd.func26, Tryd.ntmps26
  go_wp2_with fail
  go_loopg [8] n (fun gk v8 wr => HxS w S A n l gk v8 wr)
  case atStart => exact ⟨0, Nat.zero_le _, rfl, rfl, Bld.new _, (Below.refl _ _).alloc (Nat.le_refl _) _⟩
  case round =>
    obtain ⟨i, hi, hgk, rfl, hb, hbel⟩ := hrel
    have HG := Lib.hid hgk
    have HB := Lib.hid hb
    have HW := Lib.hid hbel
    have hlen := hexL_len (l.take i)
    rw [List.length_take] at hlen
    have hlen' : (hexL (l.take i)).length ≤ 2 * n := by rw [hlen]; omega
    clear hgk hb hbel hlen
    rcases Nat.lt_or_ge i n with hlt | hge
    · have hil : i < l.length := by rw [HLN.out]; exact hlt
      obtain ⟨ad, u, hAd, hu, hcell⟩ := (HA.out.kept0 (Kept.of_below HW.out)).at_ hlt
      subst hAd
      rw [b8s_at l i hil] at hu
      injection hu with hu
      subst hu
      have hs := hexL_snoc l hil
      obtain ⟨x, hx⟩ : ∃ x : Nat, l[i].toNat = x := ⟨_, rfl⟩
      have hx256 : x < 256 := by rw [← hx]; exact l[i].toNat_lt
      rw [hx] at hcell hs
      have h15 := and15 x hx256
      have HS := Lib.hid hs
      clear hx hs
      go_wp2_with fail
      refine (writeByte_calls w.heap.size (hexL (l.take i)) _ wr HB.out (by omega)).mono ?_
      rw [hexAt (x / 16) (by omega)]
      rintro en w2 ⟨rfl, hb2, hk2⟩
      have HB2 := Lib.hid hb2
      have HW2 := Lib.hid (HW.out.trans hk2)
      clear hb2 hk2
      go_wp2_with fail
      refine (writeByte_calls w.heap.size (hexL (l.take i) ++ [hexC (x / 16)]) _ w2 HB2.out (by simp; omega)).mono ?_
      rw [hexAt (x % 16) (by omega)]
      rintro en w3 ⟨rfl, hb3, hk3⟩
      have HB3 := Lib.hid hb3
      have HW3 := Lib.hid (HW2.out.trans hk3)
      clear hb3 hk3
      go_wp2_with fail
      go_roundg (n - (i + 1))
      case measure => have := HG.out; omega
      case rel => exact ⟨i + 1, hlt, rfl, by go_num, by rw [HS.out]; exact HB3.out, HW3.out⟩
    · obtain rfl : i = n := by omega
      have ht : l.take i = l := List.take_of_length_le (by have := HLN.out; omega)
      rw [ht] at HB
      go_wp2_with fail
      refine (bldString_calls w.heap.size _ wr HB.out).mono ?_
      rintro en w2 ⟨rfl, hb2⟩
      have HB2 := Lib.hid (Kept.of_below (HW.out.trans hb2))
      clear hb2
      go_wp2_with fail
      go_ret
      exact ⟨rfl, HB2.out⟩
end Go.Proofs.YtammhfnolafknaaDoor
