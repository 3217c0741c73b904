/- b64.Put: what it writes of bytes. -/
import Derived.Test.YthnebhnlkjkcmaaDoorW
import Derived.Test.YthnebhnlkjkcmaaDoorSh
import Derived.Laws.CopyOwn
import Derived.KernelRfl
import Derived.Laws.Bits64b
set_option linter.unusedVariables false
set_option linter.unusedSimpArgs false
namespace Go.Proofs.YthnebhnlkjkcmaaDoor
open Go.RowKit Go.Shelf

def alphaL : List UInt8 := [65, 66, 67, 68, 69, 70, 71, 72, 73, 74, 75, 76, 77, 78, 79, 80, 81, 82, 83, 84, 85, 86, 87, 88, 89, 90, 97, 98, 99, 100, 101, 102, 103, 104, 105, 106, 107, 108, 109, 110, 111, 112, 113, 114, 115, 116, 117, 118, 119, 120, 121, 122, 48, 49, 50, 51, 52, 53, 54, 55, 56, 57, 43, 47]
/-- The letter of a number below 64. -/
def al (n : Nat) : UInt8 := alphaL.getD n 0
/-- The three bytes' number. -/
def num3 (a b c : UInt8) : Nat := a.toNat * 65536 + b.toNat * 256 + c.toNat
/-- The k-th letter of a group of 'many' bytes whose number is n. -/
def ch (n many k : Nat) : UInt8 := if k ≤ many then al (n / 2 ^ (6 * (3 - k)) % 64) else 61
def quad (n many : Nat) : List UInt8 := [ch n many 0, ch n many 1, ch n many 2, ch n many 3]
def at0 (l : List UInt8) (i : Nat) : UInt8 := l.getD i 0
def head3 (l : List UInt8) : Nat := num3 (at0 l 0) (at0 l 1) (at0 l 2)
def put64 (l : List UInt8) : List UInt8 := if l = [] then [] else quad (head3 l) (min l.length 3) ++ put64 (l.drop 3)
termination_by l.length
decreasing_by
  rename_i h
  cases l with
  | nil => exact absurd rfl h
  | cons a r => simp; omega
theorem put64_nil : put64 [] = [] := by rw [put64, if_pos rfl]
theorem put64_step {l : List UInt8} (h : l ≠ []) : put64 l = quad (head3 l) (min l.length 3) ++ put64 (l.drop (min l.length 3)) := by
  rw [put64, if_neg h]
  rcases Nat.le_total l.length 3 with hl | hl
  · rw [Nat.min_eq_left hl, List.drop_eq_nil_of_le hl, List.drop_eq_nil_of_le (Nat.le_refl _)]
  · rw [Nat.min_eq_right hl]

theorem setRow_new (w : World) (c d : Array Value) (t : TypeId) : (w.alloc (.cells c t)).setRow w.heap.size d = w.alloc (.cells d t) := by
  simp only [World.setRow, World.alloc]
  congr 1
  apply Array.ext_getElem?
  intro i
  rw [Array.getElem?_modify]
  by_cases h : w.heap.size = i
  · subst h; simp
  · rw [if_neg h]
    rcases Nat.lt_or_ge i w.heap.size with h1 | h1
    · simp [Array.getElem?_push, Nat.ne_of_lt h1]
    · simp [Array.getElem?_push, Ne.symm h]
theorem group_cells (l : List UInt8) (h : l ≠ []) : (((b8s l).take (min l.length 3)) ++ ([.int .u8 0, .int .u8 0, .int .u8 0] : List Value).drop (min l.length 3)) = [B8 (at0 l 0), B8 (at0 l 1), B8 (at0 l 2)] := by
  match l, h with
  | [], h => exact absurd rfl h
  | [a], _ => rfl
  | [a, b], _ => rfl
  | a :: b :: c :: r, _ =>
    have : min (a :: b :: c :: r).length 3 = 3 := by simp
    rw [this]
    rfl

def PutS (w0 : World) (c : Nat) (r : List UInt8) (m : Nat) (a : Act) (w : World) : Prop :=
  ∃ (A : Option Addr) (n cap : Nat) (acc l : List UInt8) (S : Nat → Prop) (U : Nat → Value), a = { tmps := #[.slice A n cap, U 1, U 2, .pointer (some ⟨w0.heap.size, 0, none⟩), U 4, U 5, U 6, U 7, U 8, U 9, U 10, U 11, U 12, U 13, U 14, U 15, U 16, U 17, U 18, U 19, U 20, U 21, U 22, U 23, U 24, U 25, U 26, U 27, U 28, U 29, U 30, U 31, U 32, U 33, U 34, U 35, U 36, U 37, U 38, U 39, U 40, U 41, U 42, U 43, U 44, U 45, U 46, U 47], defers := [] } ∧
    m = n ∧ n ≤ cap ∧ (acc.length + 4 * n ≤ c) ∧ Reads w0 S A n (b8s l) ∧ Lib.IsBuilder 42 5 w0.heap.size w0.heap.size (Lib.byteCells acc) w ∧ Below w0.heap.size w0 w ∧ r = acc ++ put64 l

theorem PutS.mk_ {w0 : World} {c : Nat} {r : List UInt8} {w : World} (A : Option Addr) (n cap : Nat) (acc l : List UInt8) (S : Nat → Prop) {tmps : Array Value} (ht : tmps = #[.slice A n cap, tmps.getD 1 undef, tmps.getD 2 undef, .pointer (some ⟨w0.heap.size, 0, none⟩), tmps.getD 4 undef, tmps.getD 5 undef, tmps.getD 6 undef, tmps.getD 7 undef, tmps.getD 8 undef, tmps.getD 9 undef, tmps.getD 10 undef, tmps.getD 11 undef, tmps.getD 12 undef, tmps.getD 13 undef, tmps.getD 14 undef, tmps.getD 15 undef, tmps.getD 16 undef, tmps.getD 17 undef, tmps.getD 18 undef, tmps.getD 19 undef, tmps.getD 20 undef, tmps.getD 21 undef, tmps.getD 22 undef, tmps.getD 23 undef, tmps.getD 24 undef, tmps.getD 25 undef, tmps.getD 26 undef, tmps.getD 27 undef, tmps.getD 28 undef, tmps.getD 29 undef, tmps.getD 30 undef, tmps.getD 31 undef, tmps.getD 32 undef, tmps.getD 33 undef, tmps.getD 34 undef, tmps.getD 35 undef, tmps.getD 36 undef, tmps.getD 37 undef, tmps.getD 38 undef, tmps.getD 39 undef, tmps.getD 40 undef, tmps.getD 41 undef, tmps.getD 42 undef, tmps.getD 43 undef, tmps.getD 44 undef, tmps.getD 45 undef, tmps.getD 46 undef, tmps.getD 47 undef]) (hc : n ≤ cap) (hb : acc.length + 4 * n ≤ c) (hr : Reads w0 S A n (b8s l)) (hB : Lib.IsBuilder 42 5 w0.heap.size w0.heap.size (Lib.byteCells acc) w) (hw : Below w0.heap.size w0 w) (he : r = acc ++ put64 l) : PutS w0 c r n { tmps := tmps, defers := [] } w :=
  ⟨A, n, cap, acc, l, S, fun i => tmps.getD i undef, by rw [← ht], rfl, hc, hb, hr, hB, hw, he⟩

theorem or3 (x0 x1 x2 : Nat) (h0 : x0 < 256) (h1 : x1 < 256) (h2 : x2 < 256) : bits .or .u64 (bits .or .u64 ((x0 : Int) * 65536) ((x1 : Int) * 256)) (x2 : Int) = ((x0 * 65536 + x1 * 256 + x2 : Nat) : Int) := by
  have e1 : bits .or .u64 ((x0 : Int) * 65536) ((x1 : Int) * 256) = ((x0 * 65536 + x1 * 256 : Nat) : Int) := by
    have := bits_or_u64_nat (x0 * 65536) (x1 * 256) (by omega) (by omega)
    have e : x0 * 65536 ||| x1 * 256 = x0 * 65536 + x1 * 256 := by
      have := Nat.two_pow_add_eq_or_of_lt (i := 16) (b := x1 * 256) (by omega) x0
      rw [show x0 * 65536 = 2 ^ 16 * x0 by omega, ← this]
    rw [e] at this
    rw [← this]
    simp
  rw [e1, bits_or_u64_nat _ _ (by omega) (by omega)]
  congr 1
  have := Nat.two_pow_add_eq_or_of_lt (i := 8) (b := x2) (by omega) (x0 * 256 + x1)
  rw [show x0 * 65536 + x1 * 256 = 2 ^ 8 * (x0 * 256 + x1) by omega, ← this]
theorem and63 (y : Nat) (hy : y < 16777216) : bits .and .u64 (y : Int) 63 = ((y % 64 : Nat) : Int) := by
  have := bits_and_u64_nat y 63 (by omega) (by omega)
  rw [show y &&& 63 = y % 64 from Nat.and_two_pow_sub_one_eq_mod y 6] at this
  exact this
theorem al_at (i : Nat) (h : i < (strB alphaL).size) : (strB alphaL)[i] = al i := by
  have h' : i < alphaL.length := by rwa [strB_size] at h
  show alphaL.toArray[i] = alphaL.getD i 0
  rw [List.getElem_toArray, List.getD_eq_getElem?_getD, List.getElem?_eq_getElem h', Option.getD_some]
theorem al_eq {i : Nat} {h : i < (strB alphaL).size} {j : Nat} (e : j = i) : ((strB alphaL)[i].toNat : Int) = ((al j).toNat : Int) := by rw [al_at, e]
theorem quad_take (N m : Nat) {j : Nat} (h : j < 4) : (quad N m).take (j + 1) = (quad N m).take j ++ [ch N m j] := by
  match j, h with
  | 0, _ => rfl
  | 1, _ => rfl
  | 2, _ => rfl
  | 3, _ => rfl
theorem ch_in {N m k : Nat} (h : k ≤ m) : ch N m k = al (N / 2 ^ (6 * (3 - k)) % 64) := if_pos h
theorem ch_out {N m k : Nat} (h : ¬ k ≤ m) : ch N m k = 61 := if_neg h
theorem copy_to {P : Program} {w : World} {ops : Array Oper} {rest : List Oper} {o : Oper} {a : Act} {Q : Exit → Act → World → Prop} (hgd : o.guard = none) (d s : Operand) (dT sT : TypeId)
    (ho : o.op = .call { callee := .builtin .copy, args := #[d, s], argTypes := #[dT, sT] }) (elem : TypeId) (hu : P.underlying dT = some (.slice elem)) (hsz : (P.info? elem).map (·.size) = some 1)
    (g off dLen dCap : Nat) (ad : Addr) (sLen sCap : Nat) (hd : a.eval d = .slice (some ⟨g, off, none⟩) dLen dCap) (hs : a.eval s = .slice (some ad) sLen sCap)
    (cur : Array Value) (t : TypeId) (hg : w.heap[g]? = some (.cells cur t (0, 0))) (cs : List Value) (hn : cs.length = Nat.min sLen dLen)
    (hsrc : ∀ j v, cs[j]? = some v → w.cell? (ad.add j) = some v) (hfit : off + cs.length ≤ cur.size) (h1 : ∀ v ∈ cs, v.oneCell' = true) (w1 : World) (mm : Nat)
    (hw : w.setRow g (cur.toList.take off ++ (cs ++ cur.toList.drop (off + cs.length))).toArray = w1) (hm : cs.length = mm)
    (h : wpList P ops Q rest (a.put o.dst (goInt mm)) w1) : wpList P ops Q (o :: rest) a w := by
  subst hw hm
  exact wpList_copy_own hgd d s dT sT ho elem hu hsz g off dLen dCap ad sLen sCap hd hs cur t hg cs hn hsrc hfit h1 h
theorem bld_alloc {T e : TypeId} {B b : Nat} {bs : List Value} {w : World} (h : Lib.IsBuilder T e B b bs w) (o : Obj) : Lib.IsBuilder T e B b bs (w.alloc o) := by
  rcases h with ⟨hB, v, hb, hown, hne⟩ | ⟨hB, v, hb, hown, hne⟩
  · exact .inl ⟨hB, v, (Lib.alloc_old w o b (Array.getElem?_eq_some_iff.1 hb).1).trans hb, hown.alloc o, hne⟩
  · exact .inr ⟨hB, v, (Lib.alloc_old w o b (Array.getElem?_eq_some_iff.1 hb).1).trans hb, hown.alloc o, hne⟩

theorem bX : Builder.X72 Tryd.prog shRen240 where
  sizeBuilder := by kernel_rfl
  liesBuilder := by kernel_rfl
theorem bE167 : Builder.Extra Tryd.prog shRen167 where
  sizeBuilder := by kernel_rfl
  liesBuilder := by kernel_rfl
  t5 := Tryd.underlying5
  a5 := Tryd.isAgg5
  z5 := Tryd.sizeOf5
  v5 := Tryd.zeroValue5
  infoByte := by kernel_rfl
  cellsByte := by kernel_rfl
  sizeByte := by kernel_rfl
  neB5 := by decide
theorem bE169 : Builder.Extra Tryd.prog shRen169 where
  sizeBuilder := by kernel_rfl
  liesBuilder := by kernel_rfl
  t5 := Tryd.underlying5
  a5 := Tryd.isAgg5
  z5 := Tryd.sizeOf5
  v5 := Tryd.zeroValue5
  infoByte := by kernel_rfl
  cellsByte := by kernel_rfl
  sizeByte := by kernel_rfl
  neB5 := by decide
theorem writeByte_calls (B b : Nat) (bs : List Value) (c : Int) (w : World) (h : Lib.IsBuilder 42 5 B b bs w) (hlen : bs.length + 1 ≤ 140737488355328) (hBw : B ≤ w.heap.size) :
    Calls Tryd.prog 27 #[.pointer (some ⟨b, 0, none⟩), .int .u8 c] w fun e w' => e = .returned .nilIface ∧ (Lib.BuilderAt 42 5 B b (.pointer (some ⟨b, 0, none⟩)) (bs ++ [.int .u8 c]) w' ∧ Below B w w') := Any.Builder_WriteByte shLays167 bE167 B b bs c w h hlen hBw
theorem bstring_calls (B b : Nat) (l : List UInt8) (w : World) (h : Lib.IsBuilder 42 5 B b (Lib.byteCells l) w) (hBw : B ≤ w.heap.size) :
    Calls Tryd.prog 26 #[.pointer (some ⟨b, 0, none⟩)] w fun e w' => e = .returned (.string (strB l)) ∧ Below B w w' := Any.Builder_String_any shLays169 bE169 B b l w h hBw

def PutL (w0 : World) (acc : List UInt8) (N many : Nat) (k : Nat) (v29 : Value) (w : World) : Prop :=
  ∃ j : Nat, j ≤ 4 ∧ k = 4 - j ∧ v29 = .int .i64 j ∧ Lib.IsBuilder 42 5 w0.heap.size w0.heap.size (Lib.byteCells (acc ++ (quad N many).take j)) w ∧ Below w0.heap.size w0 w

theorem PutL.next {w0 w1 w2 : World} {acc : List UInt8} {N m j : Nat} {x : Int} {v : Value} (h : j < 4) (hv : v = .int .i64 ((j : Int) + 1)) (hW : Below w0.heap.size w0 w1) (hB : Lib.BuilderAt 42 5 w0.heap.size w0.heap.size (.pointer (some ⟨w0.heap.size, 0, none⟩)) (Lib.byteCells (acc ++ (quad N m).take j) ++ [.int .u8 x]) w2)
    (hb : Below w0.heap.size w1 w2) (hx : x = ((ch N m j).toNat : Int)) : PutL w0 acc N m (4 - (j + 1)) v w2 := by
  refine ⟨j + 1, h, rfl, by rw [hv]; simp, .inr ?_, hW.trans hb⟩
  rw [quad_take N m h, ← List.append_assoc, Lib.byteCells_append]
  rw [hx] at hB
  exact hB

set_option maxHeartbeats 1000000 in
set_option maxRecDepth 100000 in
theorem put64_calls (w0 : World) (S0 : Nat → Prop) (A0 : Option Addr) (n0 c0 : Nat) (bs : List UInt8) (hr : Reads w0 S0 A0 n0 (b8s bs)) (hn0 : n0 ≤ 1099511627776) (hc0 : n0 ≤ c0) :
    Calls Tryd.prog 14 #[.slice A0 n0 c0] w0 (fun en w' => en = .returned (.string (strB (put64 bs))) ∧ Below w0.heap.size w0 w') := by
  obtain ⟨hi0, hz1, hz0⟩ : ∃ i, Tryd.prog.info? 5 = some i ∧ i.size = 1 := by
    have : (Tryd.prog.info? 5).map (·.size) = some 1 := by kernel_rfl
    obtain ⟨i, h1, h2⟩ := Option.map_eq_some_iff.1 this
    exact ⟨i, h1, h2⟩
  go_enter Tryd.func14, Tryd.ntmps14
  go_wp2
  refine wp_scope_ghost 0 (PutS w0 4398046511104 (put64 bs)) n0 rfl ?_ ?_
  · intro K enter
    have enter' := Lib.hid enter
    clear enter
    go_wp2
    go_step3
    rename_i K1 hK1
    exact hK1 _ _ (enter'.out _ _ (PutS.mk_ A0 n0 c0 [] bs S0 rfl hc0 (by simp; omega) hr (Lib.fresh_isBuilder _ _ _) ((Below.refl _ _).alloc (Nat.le_refl _) _) (by simp)))
  · intro m a w hinv K next
    unfold PutS at hinv
    obtain ⟨A, n, c, acc, l, S, U, ha, hm, hnc, hin, hrd0, hbd, hbel, hreq⟩ := hinv
    subst ha
    have hl : l.length = n := by have := hrd0.1; rwa [b8s_length] at this
    have next' := Lib.hid next
    have hreq' := Lib.hid hreq
    have hbd' := Lib.hid hbd
    have hbel' := Lib.hid hbel
    have hl' := Lib.hid hl
    have hrd' := Lib.hid hrd0
    clear next hreq hbd hbel hl hrd0
    rcases Nat.eq_zero_or_pos n with h0 | h0
    · have hbk : ((n : Int) == 0) = true := by simp [h0]
      go_wp2_with (refine (bstring_calls _ _ acc _ hbd'.out (hbel'.out.size)).mono ?_; rintro en w1 ⟨rfl, hb1⟩)
      simp only [Exit.jump]
      go_ret
      obtain rfl : l = [] := List.eq_nil_of_length_eq_zero (by rw [hl'.out, h0])
      exact ⟨by rw [hreq'.out, put64_nil, List.append_nil]; rfl, hbel'.out.trans hb1⟩
    · have hbk : ((n : Int) == 0) = false := by simp; omega
      obtain ⟨ad, rfl, hSad, hltad, hcad⟩ := hrd'.out.2 h0
      have hne : l ≠ [] := fun e => by have := hl'.out; rw [e] at this; simp at this; omega
      have k1 : ((b8s l).take (min l.length 3)).length = Nat.min n 3 := by
        rw [List.length_take, b8s_length, hl'.out]
        show min (min n 3) n = min n 3
        omega
      have k2 : ∀ j v, ((b8s l).take (min l.length 3))[j]? = some v → (w.alloc (.cells #[.int .u8 0, .int .u8 0, .int .u8 0] 44)).cell? (ad.add j) = some v := by
        intro j v hj
        rw [List.getElem?_take] at hj
        split at hj
        · rw [Below.cell (hbel'.out.alloc hbel'.out.size _) (by rw [block_add]; exact hltad)]
          exact hcad j v hj
        · cases hj
      have k3 : 0 + ((b8s l).take (min l.length 3)).length ≤ (#[.int .u8 0, .int .u8 0, .int .u8 0] : Array Value).size := by
        rw [List.length_take]
        show 0 + _ ≤ 3
        omega
      have k4 : ∀ v ∈ (b8s l).take (min l.length 3), v.oneCell' = true := by
        intro v hv
        obtain ⟨b, _, rfl⟩ := List.mem_map.1 (List.mem_of_mem_take hv)
        rfl
      have k5 : (Tryd.prog.info? 5).map (·.size) = some 1 := by kernel_rfl
      obtain ⟨cs, hcs⟩ : ∃ cs, (b8s l).take (min l.length 3) = cs := ⟨_, rfl⟩
      have k6 : (w.alloc (.cells #[.int .u8 0, .int .u8 0, .int .u8 0] 44)).setRow w.heap.size (List.take 0 (#[.int .u8 0, .int .u8 0, .int .u8 0] : Array Value).toList ++ (cs ++ List.drop (0 + cs.length) (#[.int .u8 0, .int .u8 0, .int .u8 0] : Array Value).toList)).toArray = w.alloc (.cells #[B8 (at0 l 0), B8 (at0 l 1), B8 (at0 l 2)] 44) := by
        rw [setRow_new]
        congr 2
        have h1 : cs.length = min l.length 3 := by rw [← hcs, List.length_take, b8s_length]; omega
        rw [List.take_zero, List.nil_append, Nat.zero_add, h1, ← hcs]
        exact congrArg List.toArray (group_cells l hne)
      have k7 : cs.length = min l.length 3 := by rw [← hcs, List.length_take, b8s_length]; omega
      obtain ⟨mm, hmm⟩ : ∃ mm, cs.length = mm := ⟨_, rfl⟩
      rw [hmm] at k7
      unfold B8 at k6
      obtain ⟨x0, hx0⟩ : ∃ x : Nat, (at0 l 0).toNat = x := ⟨_, rfl⟩
      obtain ⟨x1, hx1⟩ : ∃ x : Nat, (at0 l 1).toNat = x := ⟨_, rfl⟩
      obtain ⟨x2, hx2⟩ : ∃ x : Nat, (at0 l 2).toNat = x := ⟨_, rfl⟩
      have b0 : x0 < 256 := by rw [← hx0]; exact (at0 l 0).toNat_lt
      have b1 : x1 < 256 := by rw [← hx1]; exact (at0 l 1).toNat_lt
      have b2 : x2 < 256 := by rw [← hx2]; exact (at0 l 2).toNat_lt
      have hN : head3 l = x0 * 65536 + x1 * 256 + x2 := by unfold head3 num3; rw [hx0, hx1, hx2]
      rw [hx0, hx1, hx2] at k6
      rw [hcs] at k1 k2 k3 k4
      have hN' := Lib.hid hN
      have k6' := Lib.hid k6
      have k7' := Lib.hid k7
      have hmm' := Lib.hid hmm
      have k1' := Lib.hid k1
      have k2' := Lib.hid k2
      have k3' := Lib.hid k3
      have k4' := Lib.hid k4
      have hcs' := Lib.hid hcs
      have hne' := Lib.hid hne
      have hcad' := Lib.hid hcad
      clear hcad hne k1 k2 k3 k4 hcs k6 k7 hmm hx0 hx1 hx2 hN
      have n1 : mm ≤ 3 := by rw [k7'.out]; omega
      have n2 : 0 < mm := by rw [k7'.out, hl'.out]; omega
      go_wp2_with (refine copy_to rfl _ _ 27 27 rfl 5 Tryd.underlying27 k5 w.heap.size 0 3 3 ad n c rfl rfl #[.int .u8 0, .int .u8 0, .int .u8 0] 44 (heap_alloc_new w _) cs k1'.out k2'.out k3'.out k4'.out _ mm k6'.out hmm'.out ?_)
      obtain ⟨N, hNN⟩ : ∃ N : Nat, x0 * 65536 + x1 * 256 + x2 = N := ⟨_, rfl⟩
      have hor := or3 x0 x1 x2 b0 b1 b2
      rw [hNN] at hor
      rw [hor]
      have hN24 : N < 16777216 := by omega
      have HNN := Lib.hid hNN
      have hrg := Lib.hid hor
      clear hNN hor
      go_loopg [29] 4 (fun gk v29 wr => PutL w0 acc N mm gk v29 wr)
      case atStart =>
        exact ⟨0, by omega, rfl, rfl, by simpa using bld_alloc hbd'.out _, hbel'.out.alloc hbel'.out.size _⟩
      case round =>
        obtain ⟨j, hj, hgk, hv, hB, hW⟩ := hrel
        subst hv
        have HB := Lib.hid hB
        have HW := Lib.hid hW
        clear hB hW
        have hbw : w0.heap.size ≤ wr.heap.size := HW.out.size
        have hlenA : acc.length + 4 ≤ 4398046511104 := by omega
        have hlenB : (Lib.byteCells (acc ++ (quad N mm).take j)).length + 1 ≤ 140737488355328 := by
          simp only [Lib.byteCells, List.length_map, List.length_append, List.length_take]
          omega
        obtain rfl | hj1 : j = 0 ∨ 1 ≤ j := by omega
        · have t0 : ((0 : Int) ≤ (mm : Int)) := by omega
          have t0' : 0 ≤ mm := by omega
          obtain ⟨i, hi⟩ : ∃ i : Nat, N / 262144 % 64 = i := ⟨_, rfl⟩
          have hia : bits .and .u64 ((N : Int) / 262144) 63 = (i : Int) := by
            have := and63 (N / 262144) (by omega)
            rw [hi] at this
            rw [← this]
            rfl
          have hi64 : i < 64 := by omega
          have HI := Lib.hid hi
          clear hi
          go_wp2_with (refine (writeByte_calls _ _ _ _ _ HB.out (by simpa using hlenB) hbw).mono ?_; rintro en w1 ⟨rfl, hb1, hbe1⟩)
          go_roundg (4 - (0 + 1))
          case measure => omega
          case rel =>
            refine PutL.next (by decide) rfl HW.out hb1 hbe1 ?_
            rw [ch_in t0']
            exact al_eq HI.out
        obtain rfl | hj2 : j = 1 ∨ 2 ≤ j := by omega
        · have t0 : ((1 : Int) ≤ (mm : Int)) := by omega
          have t0' : 1 ≤ mm := by omega
          obtain ⟨i, hi⟩ : ∃ i : Nat, N / 4096 % 64 = i := ⟨_, rfl⟩
          have hia : bits .and .u64 ((N : Int) / 4096) 63 = (i : Int) := by
            have := and63 (N / 4096) (by omega)
            rw [hi] at this
            rw [← this]
            rfl
          have hi64 : i < 64 := by omega
          have HI := Lib.hid hi
          clear hi
          go_wp2_with (refine (writeByte_calls _ _ _ _ _ HB.out (by simpa using hlenB) hbw).mono ?_; rintro en w1 ⟨rfl, hb1, hbe1⟩)
          go_roundg (4 - (1 + 1))
          case measure => omega
          case rel =>
            refine PutL.next (by decide) rfl HW.out hb1 hbe1 ?_
            rw [ch_in t0']
            exact al_eq HI.out
        obtain rfl | hj3 : j = 2 ∨ 3 ≤ j := by omega
        · by_cases hmk : 2 ≤ mm
          · have t0 : ((2 : Int) ≤ (mm : Int)) := by omega
            have t0' : 2 ≤ mm := by omega
            obtain ⟨i, hi⟩ : ∃ i : Nat, N / 64 % 64 = i := ⟨_, rfl⟩
            have hia : bits .and .u64 ((N : Int) / 64) 63 = (i : Int) := by
              have := and63 (N / 64) (by omega)
              rw [hi] at this
              rw [← this]
              rfl
            have hi64 : i < 64 := by omega
            have HI := Lib.hid hi
            clear hi
            go_wp2_with (refine (writeByte_calls _ _ _ _ _ HB.out (by simpa using hlenB) hbw).mono ?_; rintro en w1 ⟨rfl, hb1, hbe1⟩)
            go_roundg (4 - (2 + 1))
            case measure => omega
            case rel =>
              refine PutL.next (by decide) rfl HW.out hb1 hbe1 ?_
              rw [ch_in t0']
              exact al_eq HI.out
          · have t0 : ¬ ((2 : Int) ≤ (mm : Int)) := by omega
            have t0' : ¬ 2 ≤ mm := by omega
            go_wp2_with (refine (writeByte_calls _ _ _ _ _ HB.out (by simpa using hlenB) hbw).mono ?_; rintro en w1 ⟨rfl, hb1, hbe1⟩)
            go_roundg (4 - (2 + 1))
            case measure => omega
            case rel =>
              refine PutL.next (by decide) rfl HW.out hb1 hbe1 ?_
              rw [ch_out t0']
              rfl
        obtain rfl | hj4 : j = 3 ∨ 4 ≤ j := by omega
        · by_cases hmk : 3 ≤ mm
          · have t0 : ((3 : Int) ≤ (mm : Int)) := by omega
            have t0' : 3 ≤ mm := by omega
            obtain ⟨i, hi⟩ : ∃ i : Nat, N / 1 % 64 = i := ⟨_, rfl⟩
            have hia : bits .and .u64 ((N : Int)) 63 = (i : Int) := by
              have := and63 (N / 1) (by omega)
              rw [hi] at this
              rw [← this]
              rw [Nat.div_one]
            have hi64 : i < 64 := by omega
            have HI := Lib.hid hi
            clear hi
            go_wp2_with (refine (writeByte_calls _ _ _ _ _ HB.out (by simpa using hlenB) hbw).mono ?_; rintro en w1 ⟨rfl, hb1, hbe1⟩)
            go_roundg (4 - (3 + 1))
            case measure => omega
            case rel =>
              refine PutL.next (by decide) rfl HW.out hb1 hbe1 ?_
              rw [ch_in t0']
              exact al_eq HI.out
          · have t0 : ¬ ((3 : Int) ≤ (mm : Int)) := by omega
            have t0' : ¬ 3 ≤ mm := by omega
            go_wp2_with (refine (writeByte_calls _ _ _ _ _ HB.out (by simpa using hlenB) hbw).mono ?_; rintro en w1 ⟨rfl, hb1, hbe1⟩)
            go_roundg (4 - (3 + 1))
            case measure => omega
            case rel =>
              refine PutL.next (by decide) rfl HW.out hb1 hbe1 ?_
              rw [ch_out t0']
              rfl
        obtain rfl : j = 4 := by omega
        obtain ⟨A', hsl, hA'⟩ := cut_l (P := Tryd.prog) 27 5 .i64 Tryd.underlying27 hz1 hz0 (some ad) n c mm (by have := k7'.out; have := hl'.out; omega)
        have hrA := hA' w0 S _ hnc hrd'.out
        rw [b8s_drop] at hrA
        have hsl' := hsl wr
        clear hsl
        go_wp2
        go_step3
        have hlt : n - mm < m := by omega
        have hmin : mm ≤ n := by have := k7'.out; have := hl'.out; omega
        have hpos : acc.length + 4 + 4 * (n - mm) ≤ 4398046511104 := by omega
        refine ⟨rfl, next'.out _ _ _ hlt (PutS.mk_ A' (n - mm) (c - mm) (acc ++ quad N mm) (l.drop mm) S rfl (by omega) (by simpa [quad] using hpos) hrA HB.out HW.out ?_)⟩
        rw [hreq'.out, put64_step hne'.out, ← k7'.out, hN'.out, HNN.out, List.append_assoc]
end Go.Proofs.YthnebhnlkjkcmaaDoor
