/- Builders, and bytes as letters: what the program computes. -/
import Derived.Test.YthnebhnlkjkcmaaDoorW
import Derived.Test.YthnebhnlkjkcmaaDoorSh
import Derived.KernelRfl
import Derived.Laws.BitsAllLaws
import Derived.MapKept
import Derived.MakeChecks
import Derived.Below
import Derived.Sort.Defs
set_option linter.unusedVariables false
set_option linter.unusedSimpArgs false
namespace Go.Proofs.YthnebhnlkjkcmaaDoor
open Go.RowKit Go.Shelf Go.Lib Go.Sort

theorem strB_cut (L : List UInt8) (i j : Nat) : (strB L).extract i j = strB ((L.drop i).take (j - i)) := by
  apply ByteArray.ext
  simp [strB, ByteArray.data_extract, List.extract_toArray, List.extract_eq_take_drop]
theorem strB_of (s : ByteArray) : ∃ l, s = strB l ∧ l.length = s.size := ⟨s.data.toList, (strB_data s).symm, by rw [Array.length_toList]; rfl⟩
theorem strB_getI (l : List UInt8) (i : Nat) (h : i < (strB l).size) : (strB l)[i] = l[i]'(by rwa [strB_size] at h) := by
  rfl
theorem strB_app (l m : List UInt8) : strB l ++ strB m = strB (l ++ m) := by
  apply ByteArray.ext
  simp [strB]
theorem strs_at (ls : List (List UInt8)) (k : Nat) (h : k < ls.length) : (strs ls)[k]? = some (.string (strB ls[k])) := by simp [strs, List.getElem?_eq_getElem h]

theorem hxE167 : Builder.Extra Tryd.prog shRen167 where
  sizeBuilder := by kernel_rfl
  liesBuilder := by kernel_rfl
  t5 := Tryd.underlying5
  a5 := Tryd.isAgg5
  z5 := Tryd.sizeOf5
  v5 := Tryd.zeroValue5
  infoByte := by kernel_rfl
  cellsByte := by kernel_rfl
  sizeByte := by kernel_rfl
  neB5 := by decide
theorem hxE169 : Builder.Extra Tryd.prog shRen169 where
  sizeBuilder := by kernel_rfl
  liesBuilder := by kernel_rfl
  t5 := Tryd.underlying5
  a5 := Tryd.isAgg5
  z5 := Tryd.sizeOf5
  v5 := Tryd.zeroValue5
  infoByte := by kernel_rfl
  cellsByte := by kernel_rfl
  sizeByte := by kernel_rfl
  neB5 := by decide
/-- Block b is a builder of the call's own (made at b), that holds these bytes. -/
def Bld (w : World) (b : Nat) (l : List UInt8) : Prop := Lib.IsBuilder 42 5 b b (Lib.byteCells l) w
theorem Bld.new (w : World) : Bld (w.alloc (.cells #[.pointer none, .slice none 0 0] 42)) w.heap.size [] := Lib.fresh_isBuilder _ _ _
theorem Bld.kept0 {w w' : World} {b : Nat} {l : List UInt8} (h : Bld w b l) (k : Kept w w' NoB) : Bld w' b l := by
  have own : ∀ {v : Value} {n : Nat} {xs : List Value}, w.ownsRow b 5 1 v n xs → w'.ownsRow b 5 1 v n xs := by
    intro v n xs h
    refine ⟨h.1, ?_⟩
    rcases h.2 with h2 | ⟨g, cap, cur, rfl, hb, hh, r⟩
    · exact .inl h2
    · exact .inr ⟨g, cap, cur, rfl, hb, k.heap hh fun x => x, r⟩
  rcases h with ⟨hB, v, hb, hown, hne⟩ | ⟨hB, v, hb, hown, hne⟩
  · exact .inl ⟨hB, v, k.heap hb fun x => x, own hown, hne⟩
  · exact .inr ⟨hB, v, k.heap hb fun x => x, own hown, hne⟩
theorem Bld.lt {w : World} {b : Nat} {l : List UInt8} (h : Bld w b l) : b < w.heap.size := by
  rcases h with ⟨hB, v, hb, hown, hne⟩ | ⟨hB, v, hb, hown, hne⟩ <;> exact (Array.getElem?_eq_some_iff.1 hb).1
theorem Bld.of_at {w : World} {b : Nat} {p : Value} {l : List UInt8} (hp : p = .pointer (some ⟨b, 0, none⟩)) (h : Lib.BuilderAt 42 5 b b p (Lib.byteCells l) w) : Bld w b l := by
  subst hp
  exact .inr h
theorem hxWB_calls (b : Nat) (l : List UInt8) (c : UInt8) (w : World) (h : Bld w b l) (hlen : l.length + 1 ≤ 140737488355328) :
    Calls Tryd.prog 27 #[.pointer (some ⟨b, 0, none⟩), .int .u8 (c.toNat : Int)] w fun e w' => e = .returned .nilIface ∧ Bld w' b (l ++ [c]) ∧ Below b w w' := by
  refine (Any.Builder_WriteByte shLays167 hxE167 b b (Lib.byteCells l) (c.toNat : Int) w h (by rw [Lib.byteCells_length]; exact hlen) (Nat.le_of_lt h.lt)).mono fun e w' r => ⟨r.1, ?_, r.2.2⟩
  refine Bld.of_at rfl ?_
  have := r.2.1
  rw [show Lib.byteCells (l ++ [c]) = Lib.byteCells l ++ [.int .u8 (c.toNat : Int)] by simp [Lib.byteCells]]
  exact this
theorem hxBS_calls (b : Nat) (l : List UInt8) (w : World) (h : Bld w b l) :
    Calls Tryd.prog 26 #[.pointer (some ⟨b, 0, none⟩)] w fun e w' => e = .returned (.string (strB l)) ∧ Below b w w' :=
  Any.Builder_String_any shLays169 hxE169 b b l w h (Nat.le_of_lt h.lt)

def hexC (n : Nat) : UInt8 := if n < 10 then UInt8.ofNat (48 + n) else UInt8.ofNat (87 + n)
def hex2 (c : UInt8) : List UInt8 := [hexC (c.toNat / 16), hexC (c.toNat % 16)]
def hexL (l : List UInt8) : List UInt8 := l.flatMap hex2
abbrev hexS : ByteArray := ⟨#[48, 49, 50, 51, 52, 53, 54, 55, 56, 57, 97, 98, 99, 100, 101, 102]⟩
theorem hexS_at : ∀ k : Fin 16, (hexS[k.val]'(by have := k.isLt; show k.val < 16; omega)) = hexC k.val := by decide +kernel
theorem hexAt (x : Nat) (h : x < 16) (h' : x < hexS.size) : hexS[x]'h' = hexC x := by rw [← hexS_at ⟨x, h⟩]
theorem hexS_size : hexS.size = 16 := rfl
theorem and15 (x : Nat) (h : x < 256) : bits .and .u8 (x : Int) 15 = ((x % 16 : Nat) : Int) := by
  have := u8_and_nat x 15 h (by omega)
  rw [show x &&& 15 = x % 16 from Nat.and_two_pow_sub_one_eq_mod x 4] at this
  exact this
theorem hexL_snoc (l : List UInt8) {i : Nat} (h : i < l.length) : hexL (l.take (i + 1)) = (hexL (l.take i) ++ [hexC (l[i].toNat / 16)]) ++ [hexC (l[i].toNat % 16)] := by
  unfold hexL
  rw [List.take_succ_eq_append_getElem h, List.flatMap_append]
  simp [hex2]
theorem hexL_len (l : List UInt8) : (hexL l).length = 2 * l.length := by
  unfold hexL
  induction l with
  | nil => rfl
  | cons c l ih => rw [List.flatMap_cons, List.length_append, ih]; simp [hex2]; omega
def HxS (w0 : World) (S : Nat → Prop) (A : Option Addr) (n : Nat) (l : List UInt8) (gk : Nat) (v : Value) (wr : World) : Prop :=
  ∃ i, i ≤ n ∧ gk = n - i ∧ v = .int .i64 (i : Int) ∧ Bld wr w0.heap.size (hexL (l.take i)) ∧ Below w0.heap.size w0 wr
set_option maxHeartbeats 2000000 in
set_option maxRecDepth 100000 in
theorem hex_calls (w : World) (S : Nat → Prop) (A : Option Addr) (n c : Nat) (l : List UInt8) (hA : Reads w S A n (b8s l)) (hn : n ≤ 1099511627776) :
    Calls Tryd.prog 32 #[.slice A n c] w fun en w' => en = .returned (.string (strB (hexL l))) ∧ Kept w w' NoB := by
  have hln : l.length = n := by have := hA.1; rwa [b8s_length] at this
  have HLN := Lib.hid hln
  have HA := Lib.hid hA
  clear hln hA
  go_enter Tryd.func32, Tryd.ntmps32
  go_wp2_with fail
  go_loopg [8] n (fun gk v8 wr => HxS w S A n l gk v8 wr)
  case atStart => exact ⟨0, Nat.zero_le _, rfl, rfl, Bld.new _, (Below.refl _ _).alloc (Nat.le_refl _) _⟩
  case round =>
    obtain ⟨i, hi, hgk, rfl, hb, hbel⟩ := hrel
    have HG := Lib.hid hgk
    have HB := Lib.hid hb
    have HW := Lib.hid hbel
    have hlen := hexL_len (l.take i)
    rw [List.length_take] at hlen
    have hlen' : (hexL (l.take i)).length ≤ 2 * n := by rw [hlen]; omega
    clear hgk hb hbel hlen
    rcases Nat.lt_or_ge i n with hlt | hge
    · have hil : i < l.length := by rw [HLN.out]; exact hlt
      obtain ⟨ad, u, hAd, hu, hcell⟩ := (HA.out.kept0 (Kept.of_below HW.out)).at_ hlt
      subst hAd
      rw [b8s_at l i hil] at hu
      injection hu with hu
      subst hu
      have hs := hexL_snoc l hil
      obtain ⟨x, hx⟩ : ∃ x : Nat, l[i].toNat = x := ⟨_, rfl⟩
      have hx256 : x < 256 := by rw [← hx]; exact l[i].toNat_lt
      rw [hx] at hcell hs
      have h15 := and15 x hx256
      have HS := Lib.hid hs
      clear hx hs
      go_wp2_with fail
      refine (hxWB_calls w.heap.size (hexL (l.take i)) _ wr HB.out (by omega)).mono ?_
      rw [hexAt (x / 16) (by omega)]
      rintro en w2 ⟨rfl, hb2, hk2⟩
      have HB2 := Lib.hid hb2
      have HW2 := Lib.hid (HW.out.trans hk2)
      clear hb2 hk2
      go_wp2_with fail
      refine (hxWB_calls w.heap.size (hexL (l.take i) ++ [hexC (x / 16)]) _ w2 HB2.out (by simp; omega)).mono ?_
      rw [hexAt (x % 16) (by omega)]
      rintro en w3 ⟨rfl, hb3, hk3⟩
      have HB3 := Lib.hid hb3
      have HW3 := Lib.hid (HW2.out.trans hk3)
      clear hb3 hk3
      go_wp2_with fail
      go_roundg (n - (i + 1))
      case measure => have := HG.out; omega
      case rel => exact ⟨i + 1, hlt, rfl, by go_num, by rw [HS.out]; exact HB3.out, HW3.out⟩
    · obtain rfl : i = n := by omega
      have ht : l.take i = l := List.take_of_length_le (by have := HLN.out; omega)
      rw [ht] at HB
      go_wp2_with fail
      refine (hxBS_calls w.heap.size _ wr HB.out).mono ?_
      rintro en w2 ⟨rfl, hb2⟩
      have HB2 := Lib.hid (Kept.of_below (HW.out.trans hb2))
      clear hb2
      go_wp2_with fail
      go_ret
      exact ⟨rfl, HB2.out⟩
end Go.Proofs.YthnebhnlkjkcmaaDoor
