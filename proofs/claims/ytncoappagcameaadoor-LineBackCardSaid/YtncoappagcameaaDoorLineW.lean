/- Lines: the program's functions: what they compute. -/
import Derived.Test.YtncoappagcameaaDoorLineP
import Derived.Test.YtncoappagcameaaDoorMap
import Derived.Test.YtncoappagcameaaDoorShL
import Derived.Laws.ResultCell
import Derived.KernelRfl
import Derived.Shelf.Vars
set_option linter.unusedVariables false
set_option linter.unusedSimpArgs false
namespace Go.Proofs.YtncoappagcameaaDoor
open Go.RowKit Go.Shelf

theorem strB_cut (L : List UInt8) (i j : Nat) : (strB L).extract i j = strB ((L.drop i).take (j - i)) := by
  apply ByteArray.ext
  simp [strB, ByteArray.data_extract, List.extract_toArray, List.extract_eq_take_drop]
theorem strB_of (s : ByteArray) : ∃ l, s = strB l ∧ l.length = s.size := ⟨s.data.toList, (strB_data s).symm, by rw [Array.length_toList]; rfl⟩
theorem strB_getI (l : List UInt8) (i : Nat) (h : i < (strB l).size) : (strB l)[i] = l[i]'(by rwa [strB_size] at h) := by
  rfl
theorem strB_app (l m : List UInt8) : strB l ++ strB m = strB (l ++ m) := by
  apply ByteArray.ext
  simp [strB]
theorem results_cell_row2 {P : Program} {fn : Func} {p u : Tmp} {ty : TypeId} (h : fn.results = #[.cell p ty, .tmp u]) (tmps : Array Value) (w : World) (g : Nat) (t : TypeId) (cs : Array Value) (fr : Nat × Nat) (d : TypeDesc) (y : Value)
    (hp : tmps.getD p undef = .pointer (some ⟨g, 0, none⟩)) (hy : tmps.getD u undef = y) (hg : w.heap[g]? = some (.cells cs t fr))
    (hu : P.underlying ty = some d) (hd : (match d with | .struct _ | .array _ _ => true | _ => false) = true) (hi : (P.info? ty).map (·.size) = some cs.size) :
    (results fn tmps).run P w = .ok (.tuple #[.agg cs, y]) w := by
  rw [results_cell_tmp h, hp, hy]
  simp [asAddr, run_loadVar_row w g t ty cs fr d hg hu hd hi, Result.andThen]

/-- internal/bytealg.MaxLen holds some number. -/
def MaxI (w : World) : Prop := ∃ m, w.cell? ⟨0, 0, none⟩ = some (.int .i64 m)
theorem MaxI.kept0 {w w' : World} (h : MaxI w) (k : Kept w w' NoB) : MaxI w' := by
  obtain ⟨m, hm⟩ := h
  exact ⟨m, k.cell hm fun x => x⟩
theorem MaxI.of_shape {w : World} (h : w.ShapedOpen Tryd.prog) : MaxI w :=
  cell_of_shapedOpen_int (P := Tryd.prog) (g := 0) (t := 3) (zero := #[.int .i64 0]) h (of_decide_eq_true (by kernel_rfl)) (by kernel_rfl) rfl (by kernel_rfl) (by kernel_rfl) Tryd.underlying3

/-! ### The library's -/
theorem idxF_calls (w : World) (c : UInt8) :
    Calls Tryd.prog 28 #[.string ⟨#[49, 50, 51, 52, 53]⟩, .int .u8 (c.toNat : Int)] w fun en w' => ∃ r : Int, en = .returned (.int .i64 r) ∧ decide (0 ≤ r) = fstC c ∧ w' = w := by
  refine (Any.strings_IndexByte shLays137 ⟨#[49, 50, 51, 52, 53]⟩ (c.toNat : Int) w).mono fun en w' h => ⟨_, h.1, ?_, h.2⟩
  have e : ((c.toNat : Int)).toNat.toUInt8 = c := by simp
  rw [e]
  exact fstS_index c
theorem trimD_calls (w : World) (l : List UInt8) (hl : l.length ≤ 1099511627776) :
    Calls Tryd.prog 29 #[.string (strB l), .string ⟨#[48, 49, 50, 51, 52, 53, 54, 55, 56, 57]⟩] w fun en w' => ∃ r, en = .returned (.string (strB r)) ∧ (r = [] ↔ l.all dgC = true) ∧ Kept w w' NoB := by
  refine (Any.strings_Trim_laid shLays160 (by kernel_rfl) (strB l) ⟨#[48, 49, 50, 51, 52, 53, 54, 55, 56, 57]⟩ w (by rw [strB_size]; omega) (by decide) (ascii_of_all (by decide))).mono fun en w' h => ⟨_, h.1, ?_, Kept.of_below h.2⟩
  rw [strB_toList]
  exact trim_dig l
theorem cut_calls (w : World) (l : List UInt8) (hl : l.length ≤ 1099511627) (hm : MaxI w) :
    Calls Tryd.prog 26 #[.string (strB l), .string ⟨#[32]⟩] w fun en w' => en = .returned (.tuple #[.string (strB (Lib.cut l [32]).1), .string (strB (Lib.cut l [32]).2.1), .bool (Lib.cut l [32]).2.2]) ∧ Kept w w' NoB := by
  obtain ⟨m, hm⟩ := hm
  refine (Any.strings_Cut shLays145 (strB l) ⟨#[32]⟩ m w (by rw [strB_size]; omega) hm).mono fun en w' h => ⟨?_, ?_⟩
  · rw [h.1, strB_toList]
    rfl
  · obtain ⟨n, rfl⟩ := h.2
    exact (Kept.refl _ _).drewN n
theorem pref_calls (w : World) (s p : List UInt8) :
    Calls Tryd.prog 25 #[.string (strB s), .string (strB p)] w fun en w' => en = .returned (.bool (p.isPrefixOf s)) ∧ w' = w := by
  refine (Any.strings_HasPrefix shLays99 (strB s) (strB p) w).mono fun en w' h => ⟨?_, h.2⟩
  rw [h.1, strB_toList, strB_toList]
  rfl
theorem split_calls (w : World) (l sep : List UInt8) (hl : l.length ≤ 1099511627) (hs : 1 ≤ sep.length) (hm : MaxI w) {S : ByteArray} (hS : strB sep = S) :
    Calls Tryd.prog 19 #[.string (strB l), .string S] w fun en w' => en = .returned (.slice (some ⟨w.heap.size, 0, none⟩) (Lib.split l sep).length (Lib.split l sep).length) ∧ w' = w.alloc (.cells (strs (Lib.split l sep)).toArray 9) := by
  subst hS
  obtain ⟨m, hm⟩ := hm
  have hd := Lib.splitB_data (strB sep) 0 (Lib.countB (strB l) (strB sep)) (strB l)
  rw [strB_toList, strB_toList] at hd
  have hck : Lib.countB (strB l) (strB sep) = Lib.count l sep := by
    unfold Lib.countB
    rw [strB_toList, strB_toList]
  rw [hck] at hd
  have hlen := Lib.splitB_all (strB sep) (by rw [strB_size]; exact hs) 0 _ (strB l) rfl
  rw [hck] at hlen
  refine (Any.strings_Split shLays146 (by kernel_rfl) (strB l) (strB sep) m w (by rw [strB_size]; omega) hm (by rw [strB_size]; exact hs)).mono fun en w' h => ?_
  rw [hck] at h
  have e : (Lib.split l sep).length = Lib.count l sep + 1 := by
    unfold Lib.split
    rw [← hd, List.length_map, hlen]
  refine ⟨by rw [h.1, e], ?_⟩
  rw [h.2]
  congr 3
  unfold strs Lib.split
  rw [← hd, List.map_map]
  refine List.map_congr_left fun s _ => ?_
  simp [strB_data]
theorem split_len (l sep : List UInt8) : (Lib.split l sep).length ≤ l.length + 2 := by
  unfold Lib.split
  have h : ∀ (k : Nat) (s : List UInt8), (Lib.splitK sep 0 k s).length ≤ k + 1 := by
    intro k
    induction k with
    | zero => intro s; simp [Lib.splitK]
    | succ k ih =>
      intro s
      rw [Lib.splitK]
      split
      · simp
      · have := ih (s.drop ((Lib.index s sep).toNat + sep.length))
        simp only [List.length_cons]
        omega
  have h1 := h (Lib.count l sep) l
  have h2 := Lib.count_le l sep
  omega
theorem strs_at (ls : List (List UInt8)) (k : Nat) (h : k < ls.length) : (strs ls)[k]? = some (.string (strB ls[k])) := by simp [strs, List.getElem?_eq_getElem h]

/-! ### Numbers -/
set_option maxHeartbeats 1000000 in
set_option maxRecDepth 100000 in
theorem number_calls (w : World) (l : List UInt8) (hl : l.length ≤ 1099511627776) :
    Calls Tryd.prog 20 #[.string (strB l)] w fun en w' => en = .returned (.bool (numL l)) ∧ Kept w w' NoB := by
  go_enter Tryd.func20, Tryd.ntmps20
  cases l with
  | nil =>
    go_wp2_with fail
    go_ret
    exact ⟨rfl, Kept.refl _ _⟩
  | cons c r =>
    have hne : (c :: r == ([] : List UInt8)) = false := rfl
    have h0 : (0 : Int) < ((r.length : Int) + 1) := by omega
    rw [show numL (c :: r) = (fstC c && (c :: r).all dgC) from rfl]
    obtain ⟨b, hb⟩ : ∃ b, (c :: r).all dgC = b := ⟨_, rfl⟩
    obtain ⟨d, hd⟩ : ∃ d, fstC c = d := ⟨_, rfl⟩
    rw [hb, hd]
    have HB := Lib.hid hb
    have HD := Lib.hid hd
    clear hb hd
    go_wp2_with fail
    refine (idxF_calls _ c).mono ?_
    rintro en w1 ⟨q, rfl, hq, rfl⟩
    rw [HD.out] at hq
    by_cases h1 : 0 ≤ q
    · have h1' : d = true := by rw [← hq]; exact decide_eq_true h1
      subst h1'
      clear hq
      go_wp2_with fail
      refine (trimD_calls _ (c :: r) hl).mono ?_
      rintro en w2 ⟨t, rfl, ht, hk⟩
      rw [HB.out] at ht
      have HK := Lib.hid hk
      clear hk
      cases b with
      | true =>
        have ht' := ht.2 rfl
        subst ht'
        clear ht
        go_wp2_with fail
        go_ret
        exact ⟨rfl, HK.out⟩
      | false =>
        have ht' : (t == ([] : List UInt8)) = false := beq_eq_false_iff_ne.2 fun e => by have := ht.1 e; cases this
        clear ht
        go_wp2_with fail
        go_ret
        exact ⟨rfl, HK.out⟩
    · have h1' : d = false := by rw [← hq]; exact decide_eq_false h1
      subst h1'
      clear hq
      go_wp2_with fail
      go_ret
      exact ⟨rfl, Kept.refl _ _⟩
theorem short_calls (w : World) (l : List UInt8) (hl : l.length ≤ 140737488351232) :
    Calls Tryd.prog 9 #[.string (strB l)] w fun en w' => en = .returned (.string (strB (l.take 200))) ∧ w' = w := by
  go_enter Tryd.func9, Tryd.ntmps9
  by_cases h : (200 : Int) < (l.length : Int)
  · have he := strB_cut l 0 200
    simp only [List.drop_zero, Nat.sub_zero] at he
    have hz : 200 ≤ l.length := by omega
    go_wp2_with fail
    go_ret
    exact ⟨rfl, rfl⟩
  · have ht : l.take 200 = l := List.take_of_length_le (by omega)
    rw [ht]
    go_wp2_with fail
    go_ret
    exact ⟨rfl, rfl⟩
theorem digit_cut : ∀ a : Fin 10, (⟨#[48, 49, 50, 51, 52, 53, 54, 55, 56, 57]⟩ : ByteArray).extract a.val (a.val + 1) = strB [UInt8.ofNat (48 + a.val)] := by decide +kernel
set_option maxHeartbeats 1000000 in
set_option maxRecDepth 100000 in
theorem digits_calls (w : World) (n : Nat) (h1 : 100 ≤ n) (h2 : n < 1000) :
    Calls Tryd.prog 10 #[.int .i64 (n : Int)] w fun en w' => en = .returned (.string (strB (dig3 n))) ∧ Kept w w' NoB := by
  go_enter Tryd.func10, Tryd.ntmps10
  go_wp2_with fail
  go_quiet (fail)
  go_wp2_with fail
  go_ret
  refine ⟨?_, (Kept.refl _ _).drewN _⟩
  have e1 := digit_cut ⟨n / 100, by omega⟩
  have e2 := digit_cut ⟨n / 10 % 10, by omega⟩
  have e3 := digit_cut ⟨n % 10, by omega⟩
  simp only at e1 e2 e3
  rw [e1, e2, e3, strB_app, strB_app]
  rfl
def stA (x : StV) : Value := .agg #[.string (strB x.1), .bool x.2.1, .string (strB x.2.2)]
def stB (x : StV) : Array Value := #[.string (strB x.1), .bool x.2.1, .string (strB x.2.2)]
theorem Blk.cells3 {w : World} {g : Nat} {t : TypeId} {a b c : Value} (h : Blk w g t #[a, b, c]) :
    w.cell? ⟨g, 0, none⟩ = some a ∧ w.cell? ⟨g, 1, none⟩ = some b ∧ w.cell? ⟨g, 2, none⟩ = some c ∧ w.frozen? ⟨g, 0, none⟩ = false ∧ w.frozen? ⟨g, 1, none⟩ = false ∧ w.frozen? ⟨g, 2, none⟩ = false :=
  ⟨by rw [h.cell]; rfl, by rw [h.cell]; rfl, by rw [h.cell]; rfl, h.frozen 0, h.frozen 1, h.frozen 2⟩
theorem Blk.set3 {w : World} {g : Nat} {t : TypeId} {a b c : Value} (h : Blk w g t #[a, b, c]) (x y z : Value) :
    Blk (((w.setCell ⟨g, 0, none⟩ x).setCell ⟨g, 1, none⟩ y).setCell ⟨g, 2, none⟩ z) g t #[x, y, z] := ((h.set_ 0 x).set_ 1 y).set_ 2 z
theorem Kept.set3 {a w : World} {S : Nat → Prop} (h : Kept a w S) {g : Nat} (hg : S g ∨ a.heap.size ≤ g) (x y z : Value) :
    Kept a (((w.setCell ⟨g, 0, none⟩ x).setCell ⟨g, 1, none⟩ y).setCell ⟨g, 2, none⟩ z) S := ((h.setCell (p := ⟨g, 0, none⟩) hg x).setCell (p := ⟨g, 1, none⟩) hg y).setCell (p := ⟨g, 2, none⟩) hg z
theorem st_size : (Tryd.prog.info? 27).map (·.size) = some 3 := by kernel_rfl
set_option maxHeartbeats 1000000 in
set_option maxRecDepth 100000 in
theorem numbered_calls (w : World) (s : List UInt8) (hl : s.length ≤ 1099511627776) :
    Calls Tryd.prog 17 #[.string (strB s)] w fun en w' => ∃ x : StV, en = .returned (.tuple #[stA x, .bool (numberedL s).isSome]) ∧ (∀ y, numberedL s = some y → x = y) ∧ Kept w w' NoB := by
  go_enter Tryd.func17, Tryd.ntmps17
  match s, hl with
  | a :: b :: c :: r, hl =>
    have hr : r.length ≤ 1099511627776 := by simp at hl; omega
    have t1 : ¬ ((r.length : Int) + 1 + 1 + 1 < 3) := by omega
    have e1 := strB_cut (a :: b :: c :: r) 0 3
    simp only [List.drop_zero, Nat.sub_zero, List.take_succ_cons, List.take_zero] at e1
    obtain ⟨q, hq⟩ : ∃ q, numL [a, b, c] = q := ⟨_, rfl⟩
    obtain ⟨res, hres⟩ : ∃ res, numberedL (a :: b :: c :: r) = res := ⟨_, rfl⟩
    rw [hres]
    have hn : numberedL (a :: b :: c :: r) = if q = true then tailV [a, b, c] r else none := by
      unfold numberedL
      simp [hq]
    rw [hres] at hn
    have HRES := Lib.hid hn
    have HQ := Lib.hid hq
    clear hres hq hn
    have hb0 := Blk.new w 27 #[.string ByteArray.empty, .bool false, .string ByteArray.empty]
    have hk0 := (Kept.refl w NoB).alloc (.cells #[.string ByteArray.empty, .bool false, .string ByteArray.empty] 27)
    have HB0 := Lib.hid hb0
    have HK0 := Lib.hid hk0
    clear hb0 hk0
    go_wp2_with fail
    refine (number_calls _ [a, b, c] (by simp)).mono ?_
    rw [HQ.out]
    rintro en w1 ⟨rfl, hk1⟩
    have HB1 := Lib.hid (HB0.out.kept0 hk1)
    have HK1 := Lib.hid (HK0.out.trans' hk1)
    obtain ⟨c0, c1, c2, f0, f1, f2⟩ := HB1.out.cells3
    have hlt := HB1.out.lt
    clear hk1
    cases q with
    | false =>
      go_wp2_with fail
      refine bodyPost_ret (results_cell_row2 rfl _ _ w.heap.size 27 _ (0, 0) _ (.bool false) rfl rfl (HB1.out.set3 (.string ByteArray.empty) (.bool false) (.string ByteArray.empty)) Tryd.underlying27 rfl st_size) rfl ?_
      have e : res = none := HRES.out
      rw [e]
      exact ⟨([], false, []), rfl, fun y hy => (by cases hy), HK1.out.set3 (.inr (Nat.le_refl _)) _ _ _⟩
    | true =>
      have hres : res = tailV [a, b, c] r := HRES.out
      clear HRES
      cases r with
      | nil =>
        go_wp2_with fail
        refine bodyPost_ret (results_cell_row2 rfl _ _ w.heap.size 27 _ (0, 0) _ (.bool true) rfl rfl ((HB1.out.set3 (.string (strB [a, b, c])) (.bool false) (.string ByteArray.empty)).alloc _) Tryd.underlying27 rfl st_size) rfl ?_
        have e : res = some ([a, b, c], false, []) := hres
        rw [e]
        exact ⟨([a, b, c], false, []), rfl, fun y hy => Option.some.inj hy, (HK1.out.set3 (.inr (Nat.le_refl _)) _ _ _).alloc _⟩
      | cons d t =>
        have e2 := strB_cut (a :: b :: c :: d :: t) 4 (t.length + 1 + 1 + 1 + 1)
        rw [show (List.drop 4 (a :: b :: c :: d :: t)).take (t.length + 1 + 1 + 1 + 1 - 4) = t by simp] at e2
        obtain ⟨x, hx⟩ : ∃ x : Nat, d.toNat = x := ⟨_, rfl⟩
        have hix : ((strB (a :: b :: c :: d :: t))[3]'(by rw [strB_size]; simp)).toNat = x := hx
        have t3 : ((t.length : Int) + 1 + 1 + 1 + 1 == 3) = false := by rw [beq_eq_false_iff_ne]; omega
        by_cases h45 : x = 45
        · have e : res = some ([a, b, c], true, t) := by
            rw [hres]
            simp [tailV, show d = 45 from UInt8.toNat_inj.1 (by rw [hx, h45]; rfl)]
          have HE := Lib.hid e
          subst h45
          clear e hres hx
          go_wp2_with fail
          go_region
          go_wp2_with fail
          go_region
          go_wp2_with fail
          refine bodyPost_ret (results_cell_row2 rfl _ _ w.heap.size 27 _ (0, 0) _ (.bool true) rfl rfl ((HB1.out.set3 (.string (strB [a, b, c])) (.bool true) (.string (strB t))).alloc _).drew.drew Tryd.underlying27 rfl st_size) rfl ?_
          rw [HE.out]
          exact ⟨([a, b, c], true, t), rfl, fun y hy => Option.some.inj hy, ((HK1.out.set3 (.inr (Nat.le_refl _)) _ _ _).alloc _).drew.drew⟩
        · by_cases h32 : x = 32
          · have e : res = some ([a, b, c], false, t) := by
              rw [hres]
              simp [tailV, show d = 32 from UInt8.toNat_inj.1 (by rw [hx, h32]; rfl)]
            have HE := Lib.hid e
            subst h32
            clear e hres hx h45
            go_wp2_with fail
            go_region
            go_wp2_with fail
            go_region
            go_wp2_with fail
            refine bodyPost_ret (results_cell_row2 rfl _ _ w.heap.size 27 _ (0, 0) _ (.bool true) rfl rfl ((HB1.out.set3 (.string (strB [a, b, c])) (.bool false) (.string (strB t))).alloc _).drew.drew Tryd.underlying27 rfl st_size) rfl ?_
            rw [HE.out]
            exact ⟨([a, b, c], false, t), rfl, fun y hy => Option.some.inj hy, ((HK1.out.set3 (.inr (Nat.le_refl _)) _ _ _).alloc _).drew.drew⟩
          · have e : res = none := by
              rw [hres]
              have h1 : d ≠ 45 := fun e => h45 (by rw [← hx, e]; rfl)
              have h2 : d ≠ 32 := fun e => h32 (by rw [← hx, e]; rfl)
              simp [tailV, h1, h2]
            have HE := Lib.hid e
            have t45 : ((x : Int) == 45) = false := by rw [beq_eq_false_iff_ne]; omega
            have t32 : ((x : Int) == 32) = false := by rw [beq_eq_false_iff_ne]; omega
            clear e hres hx h45 h32
            go_wp2_with fail
            go_region
            go_wp2_with fail
            go_region
            go_wp2_with fail
            refine bodyPost_ret (results_cell_row2 rfl _ _ w.heap.size 27 _ (0, 0) _ (.bool false) rfl rfl ((HB1.out.set3 (.string (strB [a, b, c])) (.bool false) (.string (strB t))).alloc _).drew.drew Tryd.underlying27 rfl st_size) rfl ?_
            rw [HE.out]
            exact ⟨([a, b, c], false, t), rfl, fun y hy => (by cases hy), ((HK1.out.set3 (.inr (Nat.le_refl _)) _ _ _).alloc _).drew.drew⟩
  | [], _ =>
    have hn : numberedL [] = none := by simp [numberedL]
    rw [hn]
    go_wp2_with fail
    refine bodyPost_ret (results_cell_row2 rfl _ _ w.heap.size 27 _ (0, 0) _ (.bool false) rfl rfl (Blk.new w 27 #[.string ByteArray.empty, .bool false, .string ByteArray.empty]) Tryd.underlying27 rfl st_size) rfl ?_
    exact ⟨([], false, []), rfl, fun y hy => (by cases hy), (Kept.refl _ _).alloc _⟩
  | [a], _ =>
    have hn : numberedL [a] = none := by simp [numberedL]
    rw [hn]
    go_wp2_with fail
    refine bodyPost_ret (results_cell_row2 rfl _ _ w.heap.size 27 _ (0, 0) _ (.bool false) rfl rfl (Blk.new w 27 #[.string ByteArray.empty, .bool false, .string ByteArray.empty]) Tryd.underlying27 rfl st_size) rfl ?_
    exact ⟨([], false, []), rfl, fun y hy => (by cases hy), (Kept.refl _ _).alloc _⟩
  | [a, b], _ =>
    have hn : numberedL [a, b] = none := by simp [numberedL]
    rw [hn]
    go_wp2_with fail
    refine bodyPost_ret (results_cell_row2 rfl _ _ w.heap.size 27 _ (0, 0) _ (.bool false) rfl rfl (Blk.new w 27 #[.string ByteArray.empty, .bool false, .string ByteArray.empty]) Tryd.underlying27 rfl st_size) rfl ?_
    exact ⟨([], false, []), rfl, fun y hy => (by cases hy), (Kept.refl _ _).alloc _⟩

/-! ### Signs -/
theorem wpList_lookupS {P : Program} {ops : Array Oper} {rest : List Oper} {o : Oper} {a : Act} {Q : Exit → Act → World → Prop} (w : World) (hg : o.guard = none) (m x : Operand) (t : TypeId) (ok : Bool) (hop : o.op = Op.lookup t m x ok) (kt et : TypeId) (ht : P.underlying t = some (.map kt et)) (hk : P.underlying kt = some .string)
    (z : Value) (hz : (zeroValue et).run P w = .ok z w) (r : Nat) (l : List (List UInt8 × Value)) (hm : a.eval m = .map (some r)) (h : SMap w r l) (k : List UInt8) (hx : a.eval x = .string (strB k))
    (hK : wpList P ops Q rest (a.put o.dst (if ok then .tuple #[(findS l k).getD z, .bool (findS l k).isSome] else (findS l k).getD z)) w) : wpList P ops Q (o :: rest) a w := by
  refine wpList_plain hg fun K' hK' => ?_
  have hrun := h.look ht hk hz k ok
  unfold Oper.wp
  simp [execOp, hop, hm, hx, hrun, Result.andThen]
  refine hK' _ _ ?_
  simpa using hK
def signV (c : List UInt8) : Value := .agg #[.string (strB c), .bool false, .string ByteArray.empty]
def signM : List (List UInt8 × Value) := [([43, 79, 75], signV [43]), ([45, 69, 82, 82], signV [45]), ([43], signV [62])]
theorem sign_find (k : List UInt8) : findS signM k = (begL k).map signV := by
  unfold signM begL findS
  by_cases h1 : k = [43, 79, 75]
  · subst h1; rfl
  · by_cases h2 : k = [45, 69, 82, 82]
    · subst h2; rfl
    · by_cases h3 : k = [43]
      · subst h3; rfl
      · simp [h1, h2, h3, Ne.symm h1, Ne.symm h2, Ne.symm h3, findS]
theorem zst : ∀ w, (zeroValue 27).run Tryd.prog w = .ok (.agg #[.string ByteArray.empty, .bool false, .string ByteArray.empty]) w := by
  intro w
  exact (zero_of_info (P := Tryd.prog) (t := 27) (n := 3) (by kernel_rfl)).1 w
set_option maxHeartbeats 1000000 in
set_option maxRecDepth 100000 in
theorem signed_calls (w : World) (s : List UInt8) (hl : s.length ≤ 1099511627) (hm : MaxI w) :
    Calls Tryd.prog 18 #[.string (strB s)] w fun en w' => ∃ x : StV, en = .returned (.tuple #[stA x, .bool (signedL s).isSome]) ∧ (∀ y, signedL s = some y → x = y) ∧ Kept w w' NoB := by
  obtain ⟨res, hres⟩ : ∃ res, signedL s = res := ⟨_, rfl⟩
  rw [hres]
  have HRES := Lib.hid hres
  clear hres
  go_enter Tryd.func18, Tryd.ntmps18
  have hmk : ∀ W : World, (Instr.makeMap 46 none).run Tryd.prog W = .ok (.map (some W.heap.size)) (W.alloc (.map #[] 0)) := fun W => rfl
  have hm0 : SMap ((w.alloc (.cells #[.string ByteArray.empty, .bool false, .string ByteArray.empty] 27)).alloc (.map #[] 0)) (w.heap.size + 1) [] := by
    have := SMap.new (w.alloc (.cells #[.string ByteArray.empty, .bool false, .string ByteArray.empty] 27))
    rwa [World.size_alloc] at this
  have hb0 : Blk ((w.alloc (.cells #[.string ByteArray.empty, .bool false, .string ByteArray.empty] 27)).alloc (.map #[] 0)) w.heap.size 27 #[.string ByteArray.empty, .bool false, .string ByteArray.empty] := (Blk.new _ _ _).alloc _
  have hk0 : Kept w ((w.alloc (.cells #[.string ByteArray.empty, .bool false, .string ByteArray.empty] 27)).alloc (.map #[] 0)) NoB := ((Kept.refl _ _).alloc _).alloc _
  have HB0 := Lib.hid hb0
  have HK0 := Lib.hid hk0
  have HM0 := Lib.hid hm0
  clear hb0 hk0 hm0
  have hum := Tryd.underlying46
  have hus := Tryd.underlying9
  have HUM := Lib.hid hum
  have HUS := Lib.hid hus
  clear hum hus
  go_wp2_with (first
    | (refine wpList_insertS _ rfl _ _ _ 46 rfl _ _ HUM.out HUS.out (w.heap.size + 1) _ rfl HM0.out [43, 79, 75] _ rfl rfl ?_; intro wa ma ka)
    | (refine wpList_insertS _ rfl _ _ _ 46 rfl _ _ HUM.out HUS.out (w.heap.size + 1) _ rfl ma [45, 69, 82, 82] _ rfl rfl ?_; intro wb mb kb)
    | (refine wpList_insertS _ rfl _ _ _ 46 rfl _ _ HUM.out HUS.out (w.heap.size + 1) _ rfl mb [43] _ rfl rfl ?_; intro wc mc kc))
  have hmc : SMap wc (w.heap.size + 1) signM := mc
  have hkc : Kept w wc NoB := ((HK0.out.trans ka fun b hb => .inr (by rw [hb]; omega)).trans kb fun b hb => .inr (by rw [hb]; omega)).trans kc fun b hb => .inr (by rw [hb]; omega)
  have hbc : Blk wc w.heap.size 27 #[.string ByteArray.empty, .bool false, .string ByteArray.empty] := ((HB0.out.kept ka (by omega)).kept kb (by omega)).kept kc (by omega)
  have HMC := Lib.hid hmc
  have HKC := Lib.hid hkc
  have HBC := Lib.hid hbc
  clear ma ka mb kb mc kc hmc hkc hbc HM0 HK0 HB0
  have hcl := Go.Proofs.YtncoappagcameaaDoor.cut_len s
  have hres := HRES.out
  have hsd : (begL (Lib.cut s [32]).1).map (fun c => (c, false, (Lib.cut s [32]).2.1)) = res := hres
  have hfd := sign_find (Lib.cut s [32]).1
  have hcut := cut_calls wc s hl (hm.kept0 HKC.out)
  obtain ⟨k, hk⟩ : ∃ k, (Lib.cut s [32]).1 = k := ⟨_, rfl⟩
  obtain ⟨t, ht⟩ : ∃ t, (Lib.cut s [32]).2.1 = t := ⟨_, rfl⟩
  obtain ⟨f, hf⟩ : ∃ f, (Lib.cut s [32]).2.2 = f := ⟨_, rfl⟩
  rw [hk, ht, hf] at hcut
  rw [hk, ht] at hsd
  rw [hk] at hfd
  refine hcut.mono ?_
  rintro en w2 ⟨rfl, hk2⟩
  have HK2 := Lib.hid (HKC.out.trans' hk2)
  have HB2 := Lib.hid (HBC.out.kept0 hk2)
  have HM2 := Lib.hid (HMC.out.kept0 hk2)
  obtain ⟨c0, c1, c2, f0, f1, f2⟩ := HB2.out.cells3
  have hlt := HB2.out.lt
  have HSD := Lib.hid hsd
  clear hcut hk ht hf hcl hres hk2 HMC HKC HBC hsd
  cases hbg : begL k with
  | none =>
    rw [hbg] at hfd HSD
    have e : res = none := HSD.out.symm
    have HFD := Lib.hid hfd
    have HE := Lib.hid e
    clear hfd e hbg
    go_wp2_with (refine wpList_lookupS _ rfl _ _ 46 true rfl _ _ HUM.out HUS.out _ (zst _) (w.heap.size + 1) signM rfl HM2.out k rfl ?_; rw [HFD.out])
    refine bodyPost_ret (results_cell_row2 rfl _ _ w.heap.size 27 _ (0, 0) _ (.bool false) rfl rfl ((HB2.out.set3 (.string ByteArray.empty) (.bool false) (.string (strB t))).alloc _) Tryd.underlying27 rfl st_size) rfl ?_
    rw [HE.out]
    exact ⟨([], false, t), rfl, fun y hy => (by cases hy), (HK2.out.set3 (.inr (Nat.le_refl _)) _ _ _).alloc _⟩
  | some c =>
    rw [hbg] at hfd HSD
    have e : res = some (c, false, t) := HSD.out.symm
    have HFD := Lib.hid hfd
    have HE := Lib.hid e
    clear hfd e hbg
    go_wp2_with (refine wpList_lookupS _ rfl _ _ 46 true rfl _ _ HUM.out HUS.out _ (zst _) (w.heap.size + 1) signM rfl HM2.out k rfl ?_; rw [HFD.out]; simp only [Option.map_some, Option.getD_some, Option.isSome_some, signV])
    refine bodyPost_ret (results_cell_row2 rfl _ _ w.heap.size 27 _ (0, 0) _ (.bool true) rfl rfl ((HB2.out.set3 (.string (strB c)) (.bool false) (.string (strB t))).alloc _) Tryd.underlying27 rfl st_size) rfl ?_
    rw [HE.out]
    exact ⟨(c, false, t), rfl, fun y hy => Option.some.inj hy, (HK2.out.set3 (.inr (Nat.le_refl _)) _ _ _).alloc _⟩
end Go.Proofs.YtncoappagcameaaDoor
