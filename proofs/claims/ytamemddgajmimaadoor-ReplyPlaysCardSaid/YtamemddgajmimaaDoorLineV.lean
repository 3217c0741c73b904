/- Lines: what the program's Status computes. -/
import Derived.Test.YtamemddgajmimaaDoorLineP
import Derived.Test.YtamemddgajmimaaDoorMap
import Derived.Test.YtamemddgajmimaaDoorShM
import Derived.Laws.ResultCell
import Derived.KernelRfl
import Derived.Shelf.Vars
set_option linter.unusedVariables false
set_option linter.unusedSimpArgs false
namespace Go.Proofs.YtamemddgajmimaaDoor
open Go.RowKit Go.Shelf

theorem strB_cut (L : List UInt8) (i j : Nat) : (strB L).extract i j = strB ((L.drop i).take (j - i)) := by
  apply ByteArray.ext
  simp [strB, ByteArray.data_extract, List.extract_toArray, List.extract_eq_take_drop]
theorem strB_of (s : ByteArray) : ∃ l, s = strB l ∧ l.length = s.size := ⟨s.data.toList, (strB_data s).symm, by rw [Array.length_toList]; rfl⟩
theorem strB_getI (l : List UInt8) (i : Nat) (h : i < (strB l).size) : (strB l)[i] = l[i]'(by rwa [strB_size] at h) := by
  rfl
theorem strB_app (l m : List UInt8) : strB l ++ strB m = strB (l ++ m) := by
  apply ByteArray.ext
  simp [strB]
theorem results_cell_row2 {P : Program} {fn : Func} {p u : Tmp} {ty : TypeId} (h : fn.results = #[.cell p ty, .tmp u]) (tmps : Array Value) (w : World) (g : Nat) (t : TypeId) (cs : Array Value) (fr : Nat × Nat) (d : TypeDesc) (y : Value)
    (hp : tmps.getD p undef = .pointer (some ⟨g, 0, none⟩)) (hy : tmps.getD u undef = y) (hg : w.heap[g]? = some (.cells cs t fr))
    (hu : P.underlying ty = some d) (hd : (match d with | .struct _ | .array _ _ => true | _ => false) = true) (hi : (P.info? ty).map (·.size) = some cs.size) :
    (results fn tmps).run P w = .ok (.tuple #[.agg cs, y]) w := by
  rw [results_cell_tmp h, hp, hy]
  simp [asAddr, run_loadVar_row w g t ty cs fr d hg hu hd hi, Result.andThen]

/-- internal/bytealg.MaxLen holds some number. -/
def MaxI (w : World) : Prop := ∃ m, w.cell? ⟨0, 0, none⟩ = some (.int .i64 m)
theorem MaxI.kept0 {w w' : World} (h : MaxI w) (k : Kept w w' NoB) : MaxI w' := by
  obtain ⟨m, hm⟩ := h
  exact ⟨m, k.cell hm fun x => x⟩
theorem MaxI.of_shape {w : World} (h : w.ShapedOpen Tryd.prog) : MaxI w :=
  cell_of_shapedOpen_int (P := Tryd.prog) (g := 0) (t := 3) (zero := #[.int .i64 0]) h (of_decide_eq_true (by kernel_rfl)) (by kernel_rfl) rfl (by kernel_rfl) (by kernel_rfl) Tryd.underlying3

theorem idxF_calls (w : World) (c : UInt8) :
    Calls Tryd.prog 39 #[.string ⟨#[49, 50, 51, 52, 53]⟩, .int .u8 (c.toNat : Int)] w fun en w' => ∃ r : Int, en = .returned (.int .i64 r) ∧ decide (0 ≤ r) = fstC c ∧ w' = w := by
  refine (Any.strings_IndexByte shLays137 ⟨#[49, 50, 51, 52, 53]⟩ (c.toNat : Int) w).mono fun en w' h => ⟨_, h.1, ?_, h.2⟩
  have e : ((c.toNat : Int)).toNat.toUInt8 = c := by simp
  rw [e]
  exact fstS_index c
theorem trimD_calls (w : World) (l : List UInt8) (hl : l.length ≤ 1099511627776) :
    Calls Tryd.prog 40 #[.string (strB l), .string ⟨#[48, 49, 50, 51, 52, 53, 54, 55, 56, 57]⟩] w fun en w' => ∃ r, en = .returned (.string (strB r)) ∧ (r = [] ↔ l.all dgC = true) ∧ Kept w w' NoB := by
  refine (Any.strings_Trim_laid shLays160 (by kernel_rfl) (strB l) ⟨#[48, 49, 50, 51, 52, 53, 54, 55, 56, 57]⟩ w (by rw [strB_size]; omega) (by decide) (ascii_of_all (by decide))).mono fun en w' h => ⟨_, h.1, ?_, Kept.of_below h.2⟩
  rw [strB_toList]
  exact trim_dig l
theorem cut_calls (w : World) (l : List UInt8) (hl : l.length ≤ 1099511627) (hm : MaxI w) :
    Calls Tryd.prog 36 #[.string (strB l), .string ⟨#[32]⟩] w fun en w' => en = .returned (.tuple #[.string (strB (Lib.cut l [32]).1), .string (strB (Lib.cut l [32]).2.1), .bool (Lib.cut l [32]).2.2]) ∧ Kept w w' NoB := by
  obtain ⟨m, hm⟩ := hm
  refine (Any.strings_Cut shLays145 (strB l) ⟨#[32]⟩ m w (by rw [strB_size]; omega) hm).mono fun en w' h => ⟨?_, ?_⟩
  · rw [h.1, strB_toList]
    rfl
  · obtain ⟨n, rfl⟩ := h.2
    exact (Kept.refl _ _).drewN n
theorem strs_at (ls : List (List UInt8)) (k : Nat) (h : k < ls.length) : (strs ls)[k]? = some (.string (strB ls[k])) := by simp [strs, List.getElem?_eq_getElem h]

set_option maxHeartbeats 1000000 in
set_option maxRecDepth 100000 in
theorem number_calls (w : World) (l : List UInt8) (hl : l.length ≤ 1099511627776) :
    Calls Tryd.prog 35 #[.string (strB l)] w fun en w' => en = .returned (.bool (numL l)) ∧ Kept w w' NoB := by
  go_enter Tryd.func35, Tryd.ntmps35
  cases l with
  | nil =>
    go_wp2_with fail
    go_ret
    exact ⟨rfl, Kept.refl _ _⟩
  | cons c r =>
    have hne : (c :: r == ([] : List UInt8)) = false := rfl
    have h0 : (0 : Int) < ((r.length : Int) + 1) := by omega
    rw [show numL (c :: r) = (fstC c && (c :: r).all dgC) from rfl]
    obtain ⟨b, hb⟩ : ∃ b, (c :: r).all dgC = b := ⟨_, rfl⟩
    obtain ⟨d, hd⟩ : ∃ d, fstC c = d := ⟨_, rfl⟩
    rw [hb, hd]
    have HB := Lib.hid hb
    have HD := Lib.hid hd
    clear hb hd
    go_wp2_with fail
    refine (idxF_calls _ c).mono ?_
    rintro en w1 ⟨q, rfl, hq, rfl⟩
    rw [HD.out] at hq
    by_cases h1 : 0 ≤ q
    · have h1' : d = true := by rw [← hq]; exact decide_eq_true h1
      subst h1'
      clear hq
      go_wp2_with fail
      refine (trimD_calls _ (c :: r) hl).mono ?_
      rintro en w2 ⟨t, rfl, ht, hk⟩
      rw [HB.out] at ht
      have HK := Lib.hid hk
      clear hk
      cases b with
      | true =>
        have ht' := ht.2 rfl
        subst ht'
        clear ht
        go_wp2_with fail
        go_ret
        exact ⟨rfl, HK.out⟩
      | false =>
        have ht' : (t == ([] : List UInt8)) = false := beq_eq_false_iff_ne.2 fun e => by have := ht.1 e; cases this
        clear ht
        go_wp2_with fail
        go_ret
        exact ⟨rfl, HK.out⟩
    · have h1' : d = false := by rw [← hq]; exact decide_eq_false h1
      subst h1'
      clear hq
      go_wp2_with fail
      go_ret
      exact ⟨rfl, Kept.refl _ _⟩
def stA (x : StV) : Value := .agg #[.string (strB x.1), .bool x.2.1, .string (strB x.2.2)]
def stB (x : StV) : Array Value := #[.string (strB x.1), .bool x.2.1, .string (strB x.2.2)]
theorem Blk.cells3 {w : World} {g : Nat} {t : TypeId} {a b c : Value} (h : Blk w g t #[a, b, c]) :
    w.cell? ⟨g, 0, none⟩ = some a ∧ w.cell? ⟨g, 1, none⟩ = some b ∧ w.cell? ⟨g, 2, none⟩ = some c ∧ w.frozen? ⟨g, 0, none⟩ = false ∧ w.frozen? ⟨g, 1, none⟩ = false ∧ w.frozen? ⟨g, 2, none⟩ = false :=
  ⟨by rw [h.cell]; rfl, by rw [h.cell]; rfl, by rw [h.cell]; rfl, h.frozen 0, h.frozen 1, h.frozen 2⟩
theorem Blk.set3 {w : World} {g : Nat} {t : TypeId} {a b c : Value} (h : Blk w g t #[a, b, c]) (x y z : Value) :
    Blk (((w.setCell ⟨g, 0, none⟩ x).setCell ⟨g, 1, none⟩ y).setCell ⟨g, 2, none⟩ z) g t #[x, y, z] := ((h.set_ 0 x).set_ 1 y).set_ 2 z
theorem Kept.set3 {a w : World} {S : Nat → Prop} (h : Kept a w S) {g : Nat} (hg : S g ∨ a.heap.size ≤ g) (x y z : Value) :
    Kept a (((w.setCell ⟨g, 0, none⟩ x).setCell ⟨g, 1, none⟩ y).setCell ⟨g, 2, none⟩ z) S := ((h.setCell (p := ⟨g, 0, none⟩) hg x).setCell (p := ⟨g, 1, none⟩) hg y).setCell (p := ⟨g, 2, none⟩) hg z
theorem st_size : (Tryd.prog.info? 54).map (·.size) = some 3 := by kernel_rfl
set_option maxHeartbeats 1000000 in
set_option maxRecDepth 100000 in
theorem numbered_calls (w : World) (s : List UInt8) (hl : s.length ≤ 1099511627776) :
    Calls Tryd.prog 30 #[.string (strB s)] w fun en w' => ∃ x : StV, en = .returned (.tuple #[stA x, .bool (numberedL s).isSome]) ∧ (∀ y, numberedL s = some y → x = y) ∧ Kept w w' NoB := by
  go_enter Tryd.func30, Tryd.ntmps30
  match s, hl with
  | a :: b :: c :: r, hl =>
    have hr : r.length ≤ 1099511627776 := by simp at hl; omega
    have t1 : ¬ ((r.length : Int) + 1 + 1 + 1 < 3) := by omega
    have e1 := strB_cut (a :: b :: c :: r) 0 3
    simp only [List.drop_zero, Nat.sub_zero, List.take_succ_cons, List.take_zero] at e1
    obtain ⟨q, hq⟩ : ∃ q, numL [a, b, c] = q := ⟨_, rfl⟩
    obtain ⟨res, hres⟩ : ∃ res, numberedL (a :: b :: c :: r) = res := ⟨_, rfl⟩
    rw [hres]
    have hn : numberedL (a :: b :: c :: r) = if q = true then tailV [a, b, c] r else none := by
      unfold numberedL
      simp [hq]
    rw [hres] at hn
    have HRES := Lib.hid hn
    have HQ := Lib.hid hq
    clear hres hq hn
    have hb0 := Blk.new w 54 #[.string ByteArray.empty, .bool false, .string ByteArray.empty]
    have hk0 := (Kept.refl w NoB).alloc (.cells #[.string ByteArray.empty, .bool false, .string ByteArray.empty] 54)
    have HB0 := Lib.hid hb0
    have HK0 := Lib.hid hk0
    clear hb0 hk0
    go_wp2_with fail
    refine (number_calls _ [a, b, c] (by simp)).mono ?_
    rw [HQ.out]
    rintro en w1 ⟨rfl, hk1⟩
    have HB1 := Lib.hid (HB0.out.kept0 hk1)
    have HK1 := Lib.hid (HK0.out.trans' hk1)
    obtain ⟨c0, c1, c2, f0, f1, f2⟩ := HB1.out.cells3
    have hlt := HB1.out.lt
    clear hk1
    cases q with
    | false =>
      go_wp2_with fail
      refine bodyPost_ret (results_cell_row2 rfl _ _ w.heap.size 54 _ (0, 0) _ (.bool false) rfl rfl (HB1.out.set3 (.string ByteArray.empty) (.bool false) (.string ByteArray.empty)) Tryd.underlying54 rfl st_size) rfl ?_
      have e : res = none := HRES.out
      rw [e]
      exact ⟨([], false, []), rfl, fun y hy => (by cases hy), HK1.out.set3 (.inr (Nat.le_refl _)) _ _ _⟩
    | true =>
      have hres : res = tailV [a, b, c] r := HRES.out
      clear HRES
      cases r with
      | nil =>
        go_wp2_with fail
        refine bodyPost_ret (results_cell_row2 rfl _ _ w.heap.size 54 _ (0, 0) _ (.bool true) rfl rfl ((HB1.out.set3 (.string (strB [a, b, c])) (.bool false) (.string ByteArray.empty)).alloc _) Tryd.underlying54 rfl st_size) rfl ?_
        have e : res = some ([a, b, c], false, []) := hres
        rw [e]
        exact ⟨([a, b, c], false, []), rfl, fun y hy => Option.some.inj hy, (HK1.out.set3 (.inr (Nat.le_refl _)) _ _ _).alloc _⟩
      | cons d t =>
        have e2 := strB_cut (a :: b :: c :: d :: t) 4 (t.length + 1 + 1 + 1 + 1)
        rw [show (List.drop 4 (a :: b :: c :: d :: t)).take (t.length + 1 + 1 + 1 + 1 - 4) = t by simp] at e2
        obtain ⟨x, hx⟩ : ∃ x : Nat, d.toNat = x := ⟨_, rfl⟩
        have hix : ((strB (a :: b :: c :: d :: t))[3]'(by rw [strB_size]; simp)).toNat = x := hx
        have t3 : ((t.length : Int) + 1 + 1 + 1 + 1 == 3) = false := by rw [beq_eq_false_iff_ne]; omega
        by_cases h45 : x = 45
        · have e : res = some ([a, b, c], true, t) := by
            rw [hres]
            simp [tailV, show d = 45 from UInt8.toNat_inj.1 (by rw [hx, h45]; rfl)]
          have HE := Lib.hid e
          subst h45
          clear e hres hx
          go_wp2_with fail
          go_region
          go_wp2_with fail
          go_region
          go_wp2_with fail
          refine bodyPost_ret (results_cell_row2 rfl _ _ w.heap.size 54 _ (0, 0) _ (.bool true) rfl rfl ((HB1.out.set3 (.string (strB [a, b, c])) (.bool true) (.string (strB t))).alloc _).drew.drew Tryd.underlying54 rfl st_size) rfl ?_
          rw [HE.out]
          exact ⟨([a, b, c], true, t), rfl, fun y hy => Option.some.inj hy, ((HK1.out.set3 (.inr (Nat.le_refl _)) _ _ _).alloc _).drew.drew⟩
        · by_cases h32 : x = 32
          · have e : res = some ([a, b, c], false, t) := by
              rw [hres]
              simp [tailV, show d = 32 from UInt8.toNat_inj.1 (by rw [hx, h32]; rfl)]
            have HE := Lib.hid e
            subst h32
            clear e hres hx h45
            go_wp2_with fail
            go_region
            go_wp2_with fail
            go_region
            go_wp2_with fail
            refine bodyPost_ret (results_cell_row2 rfl _ _ w.heap.size 54 _ (0, 0) _ (.bool true) rfl rfl ((HB1.out.set3 (.string (strB [a, b, c])) (.bool false) (.string (strB t))).alloc _).drew.drew Tryd.underlying54 rfl st_size) rfl ?_
            rw [HE.out]
            exact ⟨([a, b, c], false, t), rfl, fun y hy => Option.some.inj hy, ((HK1.out.set3 (.inr (Nat.le_refl _)) _ _ _).alloc _).drew.drew⟩
          · have e : res = none := by
              rw [hres]
              have h1 : d ≠ 45 := fun e => h45 (by rw [← hx, e]; rfl)
              have h2 : d ≠ 32 := fun e => h32 (by rw [← hx, e]; rfl)
              simp [tailV, h1, h2]
            have HE := Lib.hid e
            have t45 : ((x : Int) == 45) = false := by rw [beq_eq_false_iff_ne]; omega
            have t32 : ((x : Int) == 32) = false := by rw [beq_eq_false_iff_ne]; omega
            clear e hres hx h45 h32
            go_wp2_with fail
            go_region
            go_wp2_with fail
            go_region
            go_wp2_with fail
            refine bodyPost_ret (results_cell_row2 rfl _ _ w.heap.size 54 _ (0, 0) _ (.bool false) rfl rfl ((HB1.out.set3 (.string (strB [a, b, c])) (.bool false) (.string (strB t))).alloc _).drew.drew Tryd.underlying54 rfl st_size) rfl ?_
            rw [HE.out]
            exact ⟨([a, b, c], false, t), rfl, fun y hy => (by cases hy), ((HK1.out.set3 (.inr (Nat.le_refl _)) _ _ _).alloc _).drew.drew⟩
  | [], _ =>
    have hn : numberedL [] = none := by simp [numberedL]
    rw [hn]
    go_wp2_with fail
    refine bodyPost_ret (results_cell_row2 rfl _ _ w.heap.size 54 _ (0, 0) _ (.bool false) rfl rfl (Blk.new w 54 #[.string ByteArray.empty, .bool false, .string ByteArray.empty]) Tryd.underlying54 rfl st_size) rfl ?_
    exact ⟨([], false, []), rfl, fun y hy => (by cases hy), (Kept.refl _ _).alloc _⟩
  | [a], _ =>
    have hn : numberedL [a] = none := by simp [numberedL]
    rw [hn]
    go_wp2_with fail
    refine bodyPost_ret (results_cell_row2 rfl _ _ w.heap.size 54 _ (0, 0) _ (.bool false) rfl rfl (Blk.new w 54 #[.string ByteArray.empty, .bool false, .string ByteArray.empty]) Tryd.underlying54 rfl st_size) rfl ?_
    exact ⟨([], false, []), rfl, fun y hy => (by cases hy), (Kept.refl _ _).alloc _⟩
  | [a, b], _ =>
    have hn : numberedL [a, b] = none := by simp [numberedL]
    rw [hn]
    go_wp2_with fail
    refine bodyPost_ret (results_cell_row2 rfl _ _ w.heap.size 54 _ (0, 0) _ (.bool false) rfl rfl (Blk.new w 54 #[.string ByteArray.empty, .bool false, .string ByteArray.empty]) Tryd.underlying54 rfl st_size) rfl ?_
    exact ⟨([], false, []), rfl, fun y hy => (by cases hy), (Kept.refl _ _).alloc _⟩

theorem wpList_lookupS {P : Program} {ops : Array Oper} {rest : List Oper} {o : Oper} {a : Act} {Q : Exit → Act → World → Prop} (w : World) (hg : o.guard = none) (m x : Operand) (t : TypeId) (ok : Bool) (hop : o.op = Op.lookup t m x ok) (kt et : TypeId) (ht : P.underlying t = some (.map kt et)) (hk : P.underlying kt = some .string)
    (z : Value) (hz : (zeroValue et).run P w = .ok z w) (r : Nat) (l : List (List UInt8 × Value)) (hm : a.eval m = .map (some r)) (h : SMap w r l) (k : List UInt8) (hx : a.eval x = .string (strB k))
    (hK : wpList P ops Q rest (a.put o.dst (if ok then .tuple #[(findS l k).getD z, .bool (findS l k).isSome] else (findS l k).getD z)) w) : wpList P ops Q (o :: rest) a w := by
  refine wpList_plain hg fun K' hK' => ?_
  have hrun := h.look ht hk hz k ok
  unfold Oper.wp
  simp [execOp, hop, hm, hx, hrun, Result.andThen]
  refine hK' _ _ ?_
  simpa using hK
def signV (c : List UInt8) : Value := .agg #[.string (strB c), .bool false, .string ByteArray.empty]
def signM : List (List UInt8 × Value) := [([43, 79, 75], signV [43]), ([45, 69, 82, 82], signV [45]), ([43], signV [62])]
theorem sign_find (k : List UInt8) : findS signM k = (begL k).map signV := by
  unfold signM begL findS
  by_cases h1 : k = [43, 79, 75]
  · subst h1; rfl
  · by_cases h2 : k = [45, 69, 82, 82]
    · subst h2; rfl
    · by_cases h3 : k = [43]
      · subst h3; rfl
      · simp [h1, h2, h3, Ne.symm h1, Ne.symm h2, Ne.symm h3, findS]
theorem zst : ∀ w, (zeroValue 54).run Tryd.prog w = .ok (.agg #[.string ByteArray.empty, .bool false, .string ByteArray.empty]) w := by
  intro w
  exact (zero_of_info (P := Tryd.prog) (t := 54) (n := 3) (by kernel_rfl)).1 w
set_option maxHeartbeats 1000000 in
set_option maxRecDepth 100000 in
theorem signed_calls (w : World) (s : List UInt8) (hl : s.length ≤ 1099511627) (hm : MaxI w) :
    Calls Tryd.prog 31 #[.string (strB s)] w fun en w' => ∃ x : StV, en = .returned (.tuple #[stA x, .bool (signedL s).isSome]) ∧ (∀ y, signedL s = some y → x = y) ∧ Kept w w' NoB := by
  obtain ⟨res, hres⟩ : ∃ res, signedL s = res := ⟨_, rfl⟩
  rw [hres]
  have HRES := Lib.hid hres
  clear hres
  go_enter Tryd.func31, Tryd.ntmps31
  have hmk : ∀ W : World, (Instr.makeMap 71 none).run Tryd.prog W = .ok (.map (some W.heap.size)) (W.alloc (.map #[] 0)) := fun W => rfl
  have hm0 : SMap ((w.alloc (.cells #[.string ByteArray.empty, .bool false, .string ByteArray.empty] 54)).alloc (.map #[] 0)) (w.heap.size + 1) [] := by
    have := SMap.new (w.alloc (.cells #[.string ByteArray.empty, .bool false, .string ByteArray.empty] 54))
    rwa [World.size_alloc] at this
  have hb0 : Blk ((w.alloc (.cells #[.string ByteArray.empty, .bool false, .string ByteArray.empty] 54)).alloc (.map #[] 0)) w.heap.size 54 #[.string ByteArray.empty, .bool false, .string ByteArray.empty] := (Blk.new _ _ _).alloc _
  have hk0 : Kept w ((w.alloc (.cells #[.string ByteArray.empty, .bool false, .string ByteArray.empty] 54)).alloc (.map #[] 0)) NoB := ((Kept.refl _ _).alloc _).alloc _
  have HB0 := Lib.hid hb0
  have HK0 := Lib.hid hk0
  have HM0 := Lib.hid hm0
  clear hb0 hk0 hm0
  have hum := Tryd.underlying71
  have hus := Tryd.underlying9
  have HUM := Lib.hid hum
  have HUS := Lib.hid hus
  clear hum hus
  go_wp2_with (first
    | (refine wpList_insertS _ rfl _ _ _ 71 rfl _ _ HUM.out HUS.out (w.heap.size + 1) _ rfl HM0.out [43, 79, 75] _ rfl rfl ?_; intro wa ma ka)
    | (refine wpList_insertS _ rfl _ _ _ 71 rfl _ _ HUM.out HUS.out (w.heap.size + 1) _ rfl ma [45, 69, 82, 82] _ rfl rfl ?_; intro wb mb kb)
    | (refine wpList_insertS _ rfl _ _ _ 71 rfl _ _ HUM.out HUS.out (w.heap.size + 1) _ rfl mb [43] _ rfl rfl ?_; intro wc mc kc))
  have hmc : SMap wc (w.heap.size + 1) signM := mc
  have hkc : Kept w wc NoB := ((HK0.out.trans ka fun b hb => .inr (by rw [hb]; omega)).trans kb fun b hb => .inr (by rw [hb]; omega)).trans kc fun b hb => .inr (by rw [hb]; omega)
  have hbc : Blk wc w.heap.size 54 #[.string ByteArray.empty, .bool false, .string ByteArray.empty] := ((HB0.out.kept ka (by omega)).kept kb (by omega)).kept kc (by omega)
  have HMC := Lib.hid hmc
  have HKC := Lib.hid hkc
  have HBC := Lib.hid hbc
  clear ma ka mb kb mc kc hmc hkc hbc HM0 HK0 HB0
  have hcl := Go.Proofs.YtamemddgajmimaaDoor.cut_len s
  have hres := HRES.out
  have hsd : (begL (Lib.cut s [32]).1).map (fun c => (c, false, (Lib.cut s [32]).2.1)) = res := hres
  have hfd := sign_find (Lib.cut s [32]).1
  have hcut := cut_calls wc s hl (hm.kept0 HKC.out)
  obtain ⟨k, hk⟩ : ∃ k, (Lib.cut s [32]).1 = k := ⟨_, rfl⟩
  obtain ⟨t, ht⟩ : ∃ t, (Lib.cut s [32]).2.1 = t := ⟨_, rfl⟩
  obtain ⟨f, hf⟩ : ∃ f, (Lib.cut s [32]).2.2 = f := ⟨_, rfl⟩
  rw [hk, ht, hf] at hcut
  rw [hk, ht] at hsd
  rw [hk] at hfd
  refine hcut.mono ?_
  rintro en w2 ⟨rfl, hk2⟩
  have HK2 := Lib.hid (HKC.out.trans' hk2)
  have HB2 := Lib.hid (HBC.out.kept0 hk2)
  have HM2 := Lib.hid (HMC.out.kept0 hk2)
  obtain ⟨c0, c1, c2, f0, f1, f2⟩ := HB2.out.cells3
  have hlt := HB2.out.lt
  have HSD := Lib.hid hsd
  clear hcut hk ht hf hcl hres hk2 HMC HKC HBC hsd
  cases hbg : begL k with
  | none =>
    rw [hbg] at hfd HSD
    have e : res = none := HSD.out.symm
    have HFD := Lib.hid hfd
    have HE := Lib.hid e
    clear hfd e hbg
    go_wp2_with (refine wpList_lookupS _ rfl _ _ 71 true rfl _ _ HUM.out HUS.out _ (zst _) (w.heap.size + 1) signM rfl HM2.out k rfl ?_; rw [HFD.out])
    refine bodyPost_ret (results_cell_row2 rfl _ _ w.heap.size 54 _ (0, 0) _ (.bool false) rfl rfl ((HB2.out.set3 (.string ByteArray.empty) (.bool false) (.string (strB t))).alloc _) Tryd.underlying54 rfl st_size) rfl ?_
    rw [HE.out]
    exact ⟨([], false, t), rfl, fun y hy => (by cases hy), (HK2.out.set3 (.inr (Nat.le_refl _)) _ _ _).alloc _⟩
  | some c =>
    rw [hbg] at hfd HSD
    have e : res = some (c, false, t) := HSD.out.symm
    have HFD := Lib.hid hfd
    have HE := Lib.hid e
    clear hfd e hbg
    go_wp2_with (refine wpList_lookupS _ rfl _ _ 71 true rfl _ _ HUM.out HUS.out _ (zst _) (w.heap.size + 1) signM rfl HM2.out k rfl ?_; rw [HFD.out]; simp only [Option.map_some, Option.getD_some, Option.isSome_some, signV])
    refine bodyPost_ret (results_cell_row2 rfl _ _ w.heap.size 54 _ (0, 0) _ (.bool true) rfl rfl ((HB2.out.set3 (.string (strB c)) (.bool false) (.string (strB t))).alloc _) Tryd.underlying54 rfl st_size) rfl ?_
    rw [HE.out]
    exact ⟨(c, false, t), rfl, fun y hy => Option.some.inj hy, (HK2.out.set3 (.inr (Nat.le_refl _)) _ _ _).alloc _⟩
theorem Blk.far3 {w : World} {g g' : Nat} {t : TypeId} {cs : Array Value} (h : Blk w g t cs) (hg : ¬ g = g') (x y z : Value) :
    Blk (((w.setCell ⟨g', 0, none⟩ x).setCell ⟨g', 1, none⟩ y).setCell ⟨g', 2, none⟩ z) g t cs := ((h.far (p := ⟨g', 0, none⟩) hg x).far (p := ⟨g', 1, none⟩) hg y).far (p := ⟨g', 2, none⟩) hg z
def stV (r : Option StV) : StV := r.getD ([], false, [])
def stR (r : Option StV) : Value := .tuple #[stA (stV r), .bool r.isSome]
theorem stR_some (x : StV) : stR (some x) = .tuple #[stA x, .bool true] := rfl
set_option maxHeartbeats 1000000 in
set_option maxRecDepth 100000 in
theorem status_calls (w : World) (proto : Int) (s : List UInt8) (hl : s.length ≤ 1099511627) (hm : MaxI w) :
    Calls Tryd.prog 23 #[.int .i64 proto, .string (strB s)] w fun en w' => en = .returned (stR (statusL proto s)) ∧ Kept w w' NoB := by
  obtain ⟨res, hres⟩ : ∃ res, statusL proto s = res := ⟨_, rfl⟩
  rw [hres]
  have HRES := Lib.hid hres
  clear hres
  go_enter Tryd.func23, Tryd.ntmps23
  have hb0 : Blk ((w.alloc (.cells #[.string ByteArray.empty, .bool false, .string ByteArray.empty] 54)).alloc (.cells #[.string ByteArray.empty, .bool false, .string ByteArray.empty] 54)) w.heap.size 54 #[.string ByteArray.empty, .bool false, .string ByteArray.empty] := (Blk.new _ _ _).alloc _
  have hb1 : Blk ((w.alloc (.cells #[.string ByteArray.empty, .bool false, .string ByteArray.empty] 54)).alloc (.cells #[.string ByteArray.empty, .bool false, .string ByteArray.empty] 54)) (w.heap.size + 1) 54 #[.string ByteArray.empty, .bool false, .string ByteArray.empty] := by
    have := Blk.new (w.alloc (.cells #[.string ByteArray.empty, .bool false, .string ByteArray.empty] 54)) 54 #[.string ByteArray.empty, .bool false, .string ByteArray.empty]
    rwa [World.size_alloc] at this
  have hk0 : Kept w ((w.alloc (.cells #[.string ByteArray.empty, .bool false, .string ByteArray.empty] 54)).alloc (.cells #[.string ByteArray.empty, .bool false, .string ByteArray.empty] 54)) NoB := ((Kept.refl _ _).alloc _).alloc _
  have HB0 := Lib.hid hb0
  have HB1 := Lib.hid hb1
  have HK0 := Lib.hid hk0
  clear hb0 hb1 hk0
  have hinr : w.heap.size ≤ w.heap.size + 1 := by omega
  have hne : ¬ w.heap.size = w.heap.size + 1 := by omega
  by_cases h13 : proto = 1 ∨ proto = 3
  · have hr : numberedL s = res := by rw [← HRES.out, statusL, if_pos h13]
    have HR := Lib.hid hr
    clear hr HRES
    rcases h13 with rfl | rfl
    all_goals
      go_wp2_with fail
      refine (numbered_calls _ s (by omega)).mono ?_
      rw [HR.out]
      rintro en w2 ⟨x, rfl, hx, hk2⟩
      have HK2 := Lib.hid (HK0.out.trans' hk2)
      have HC0 := Lib.hid (HB0.out.kept0 hk2)
      have HC1 := Lib.hid (HB1.out.kept0 hk2)
      obtain ⟨c0, c1, c2, f0, f1, f2⟩ := HC0.out.cells3
      obtain ⟨d0, d1, d2, g0, g1, g2⟩ := HC1.out.cells3
      have HX := Lib.hid hx
      unfold stA
      clear hk2 hx
      cases hq : res with
      | none =>
        simp only [Option.isSome_none]
        go_wp2_with fail
        refine bodyPost_ret (results_cell_row2 rfl _ _ w.heap.size 54 _ (0, 0) _ (.bool false) rfl rfl ((HC0.out.far3 hne (.string (strB x.1)) (.bool x.2.1) (.string (strB x.2.2))).set3 (.string ByteArray.empty) (.bool false) (.string ByteArray.empty)) Tryd.underlying54 rfl st_size) rfl ?_
        rw [hq]
        exact ⟨rfl, (HK2.out.set3 (.inr hinr) _ _ _).set3 (.inr (Nat.le_refl _)) _ _ _⟩
      | some y =>
        have hxy := HX.out y hq
        simp only [Option.isSome_some]
        have HXY := Lib.hid hxy
        have HQ := Lib.hid hq
        clear hxy hq
        go_wp2_with fail
        refine bodyPost_ret (results_cell_row2 rfl _ _ w.heap.size 54 _ (0, 0) _ (.bool true) rfl rfl ((HC0.out.far3 hne (.string (strB x.1)) (.bool x.2.1) (.string (strB x.2.2))).set3 (.string (strB x.1)) (.bool x.2.1) (.string (strB x.2.2))) Tryd.underlying54 rfl st_size) rfl ?_
        rw [HQ.out, ← HXY.out]
        exact ⟨rfl, (HK2.out.set3 (.inr hinr) _ _ _).set3 (.inr (Nat.le_refl _)) _ _ _⟩
  · by_cases h2 : proto = 2
    · have hr : signedL s = res := by rw [← HRES.out, statusL, if_neg h13, if_pos h2]
      have HR := Lib.hid hr
      clear hr HRES h13
      subst h2
      go_wp2_with fail
      refine (signed_calls _ s hl (hm.kept0 HK0.out)).mono ?_
      rw [HR.out]
      rintro en w2 ⟨x, rfl, hx, hk2⟩
      have HK2 := Lib.hid (HK0.out.trans' hk2)
      have HC0 := Lib.hid (HB0.out.kept0 hk2)
      have HC1 := Lib.hid (HB1.out.kept0 hk2)
      obtain ⟨c0, c1, c2, f0, f1, f2⟩ := HC0.out.cells3
      obtain ⟨d0, d1, d2, g0, g1, g2⟩ := HC1.out.cells3
      have HX := Lib.hid hx
      unfold stA
      clear hk2 hx
      cases hq : res with
      | none =>
        simp only [Option.isSome_none]
        go_wp2_with fail
        refine bodyPost_ret (results_cell_row2 rfl _ _ w.heap.size 54 _ (0, 0) _ (.bool false) rfl rfl ((HC0.out.far3 hne (.string (strB x.1)) (.bool x.2.1) (.string (strB x.2.2))).set3 (.string ByteArray.empty) (.bool false) (.string ByteArray.empty)) Tryd.underlying54 rfl st_size) rfl ?_
        rw [hq]
        exact ⟨rfl, (HK2.out.set3 (.inr hinr) _ _ _).set3 (.inr (Nat.le_refl _)) _ _ _⟩
      | some y =>
        have hxy := HX.out y hq
        simp only [Option.isSome_some]
        have HXY := Lib.hid hxy
        have HQ := Lib.hid hq
        clear hxy hq
        go_wp2_with fail
        refine bodyPost_ret (results_cell_row2 rfl _ _ w.heap.size 54 _ (0, 0) _ (.bool true) rfl rfl ((HC0.out.far3 hne (.string (strB x.1)) (.bool x.2.1) (.string (strB x.2.2))).set3 (.string (strB x.1)) (.bool x.2.1) (.string (strB x.2.2))) Tryd.underlying54 rfl st_size) rfl ?_
        rw [HQ.out, ← HXY.out]
        exact ⟨rfl, (HK2.out.set3 (.inr hinr) _ _ _).set3 (.inr (Nat.le_refl _)) _ _ _⟩
    · have hr : res = none := by rw [← HRES.out, statusL, if_neg h13, if_neg h2]
      have t1 : (proto == 1) = false := by rw [beq_eq_false_iff_ne]; omega
      have t2 : (proto == 2) = false := by rw [beq_eq_false_iff_ne]; omega
      have t3 : (proto == 3) = false := by rw [beq_eq_false_iff_ne]; omega
      have HR := Lib.hid hr
      clear hr HRES h13 h2
      go_wp2_with fail
      refine bodyPost_ret (results_cell_row2 rfl _ _ w.heap.size 54 _ (0, 0) _ (.bool false) rfl rfl HB0.out Tryd.underlying54 rfl st_size) rfl ?_
      rw [HR.out]
      exact ⟨rfl, HK0.out⟩

end Go.Proofs.YtamemddgajmimaaDoor
