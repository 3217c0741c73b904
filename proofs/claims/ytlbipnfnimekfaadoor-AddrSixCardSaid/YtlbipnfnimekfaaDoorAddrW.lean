/- Addresses: SplitN, TrimLeft, numbers: what they compute. -/
import Derived.Test.YtlbipnfnimekfaaDoorAddrP
import Derived.Test.YtlbipnfnimekfaaDoorIdx2
import Derived.Shelf.Vars
set_option linter.unusedVariables false
set_option linter.unusedSimpArgs false
namespace Go.Proofs.YtlbipnfnimekfaaDoor
open Go.RowKit Go.Shelf

def MaxI (w : World) : Prop := ∃ m, w.cell? ⟨0, 0, none⟩ = some (.int .i64 m)
theorem MaxI.kept0 {w w' : World} (h : MaxI w) (k : Kept w w' NoB) : MaxI w' := by
  obtain ⟨m, hm⟩ := h
  exact ⟨m, k.cell hm fun x => x⟩
theorem MaxI.of_shape {w : World} (h : w.ShapedOpen Tryd.prog) : MaxI w :=
  cell_of_shapedOpen_int (P := Tryd.prog) (g := 0) (t := 3) (zero := #[.int .i64 0]) h (of_decide_eq_true (by kernel_rfl)) (by kernel_rfl) rfl (by kernel_rfl) (by kernel_rfl) Tryd.underlying3

theorem piecesK_more : ∀ (k : Nat) (s : List UInt8) (m : Nat), s.length ≤ k → k ≤ m → piecesK k s = piecesK m s
  | 0, s, m, h, _ => by
    obtain rfl : s = [] := List.length_eq_zero_iff.1 (by omega)
    cases m <;> rfl
  | k + 1, s, m, h, hm => by
    obtain ⟨m, rfl⟩ : ∃ m', m = m' + 1 := ⟨m - 1, by omega⟩
    rw [piecesK, piecesK]
    cases hd : s.dropWhile notC with
    | nil => rfl
    | cons c r =>
      have hl : (s.takeWhile notC).length + (s.dropWhile notC).length = s.length := by
        rw [← List.length_append, List.takeWhile_append_dropWhile]
      rw [hd, List.length_cons] at hl
      simp only
      rw [piecesK_more k r m (by omega) (by omega)]
theorem piecesK_short : ∀ (k : Nat) (s p : List UInt8), p ∈ piecesK k s → p.length ≤ s.length
  | 0, s, p, h => by simp [piecesK] at h; rw [h]; exact Nat.le_refl _
  | k + 1, s, p, h => by
    rw [piecesK] at h
    have hl : (s.takeWhile notC).length + (s.dropWhile notC).length = s.length := by
      rw [← List.length_append, List.takeWhile_append_dropWhile]
    cases hd : s.dropWhile notC with
    | nil => rw [hd] at h; simp at h; rw [h]; exact Nat.le_refl _
    | cons c r =>
      rw [hd] at h hl
      simp only [List.length_cons] at hl
      rcases List.mem_cons.1 h with rfl | h
      · omega
      · have := piecesK_short k r p h
        omega
theorem splitN_calls (w : World) (l : List UInt8) (hl : l.length ≤ 1099511627) (hm : MaxI w) :
    Calls Tryd.prog 32 #[.string (strB l), .string ⟨#[44]⟩, .int .i64 6] w fun en w' => ∃ c, en = .returned (.slice (some ⟨w.heap.size, 0, none⟩) (piecesK 5 l).length c) ∧
      Reads w' (fun k => k = w.heap.size) (some ⟨w.heap.size, 0, none⟩) (piecesK 5 l).length (strs (piecesK 5 l)) ∧ (piecesK 5 l).length ≤ c ∧ Kept w w' NoB := by
  obtain ⟨m, hm⟩ := hm
  have hd := Lib.splitB_data ⟨#[44]⟩ 0 (min 6 ((strB l).size + 1) - 1) (strB l)
  rw [strB_toList] at hd
  have e44 : (⟨#[44]⟩ : ByteArray).data.toList = [44] := rfl
  rw [e44, splitK_pieces] at hd
  have hp : piecesK (min 6 ((strB l).size + 1) - 1) l = piecesK 5 l := by
    rw [strB_size]
    rcases Nat.lt_or_ge l.length 5 with h | h
    · rw [show min 6 (l.length + 1) - 1 = l.length by omega]
      exact piecesK_more _ _ _ (Nat.le_refl _) (by omega)
    · rw [show min 6 (l.length + 1) - 1 = 5 by omega]
  rw [hp] at hd
  have hlen : (Lib.splitB ⟨#[44]⟩ 0 (min 6 ((strB l).size + 1) - 1) (strB l)).length = (piecesK 5 l).length := by rw [← hd, List.length_map]
  have hle := Lib.splitB_length_le ⟨#[44]⟩ 0 (min 6 ((strB l).size + 1) - 1) (strB l)
  have hst : (Lib.splitB ⟨#[44]⟩ 0 (min 6 ((strB l).size + 1) - 1) (strB l)).map Value.string = strs (piecesK 5 l) := by
    rw [← hd, strs, List.map_map]
    refine List.map_congr_left fun s _ => ?_
    simp [strB_data]
  refine (Any.strings_SplitN { shLays147 with } (by kernel_rfl) (strB l) ⟨#[44]⟩ 6 m w (by rw [strB_size]; omega) hm (by decide) (by decide) (by decide)).mono fun en w' h => ?_
  refine ⟨min 6 ((strB l).size + 1), by rw [h.1, hlen], ?_, by rw [← hlen]; omega, by rw [h.2]; exact (Kept.refl _ _).alloc _⟩
  rw [h.2]
  refine ⟨by rw [strs_length], fun hn => ⟨_, rfl, rfl, by simp, fun j u hu => ?_⟩⟩
  have hj : j < (strs (piecesK 5 l)).length := (List.getElem?_eq_some_iff.1 hu).1
  rw [add_lit0, cell_of_row _ _ j _ _ (0, 0) (heap_alloc_new w _)]
  unfold Lib.cellsOf
  rw [hst, List.getElem?_toArray, List.getElem?_append_left hj]
  exact hu
theorem trimLeftS_digs (l : List UInt8) : Lib.trimLeftS l [48, 49, 50, 51, 52, 53, 54, 55, 56, 57] = l.dropWhile digC := by
  unfold Lib.trimLeftS
  congr 1
  funext c
  exact digs_contains c
theorem tl_set : (Tryd.prog.info? (shRen161.t 116)).map (fun i => (i.zero, i.size)) = some (some (.agg (Array.replicate 256 (.bool false))), 256) := by kernel_rfl
theorem trimLeft_calls (w : World) (l : List UInt8) :
    Calls Tryd.prog 33 #[.string (strB l), .string ⟨#[48, 49, 50, 51, 52, 53, 54, 55, 56, 57]⟩] w fun en w' => en = .returned (.string (strB (l.dropWhile digC))) ∧ Kept w w' NoB := by
  refine (Any.strings_TrimLeft_laid shLays161 tl_set (strB l) ⟨#[48, 49, 50, 51, 52, 53, 54, 55, 56, 57]⟩ w (by decide) (ascii_of_all (by decide))).mono fun en w' h => ⟨?_, Kept.of_below h.2⟩
  rw [h.1, strB_toList]
  have e : (⟨#[48, 49, 50, 51, 52, 53, 54, 55, 56, 57]⟩ : ByteArray).data.toList = [48, 49, 50, 51, 52, 53, 54, 55, 56, 57] := rfl
  rw [e, trimLeftS_digs]
  rfl
def intsV (l : List Int) : List Value := l.map fun n => .int .i64 n
def NumsPost (w : World) (s : List UInt8) (en : Ending) (w' : World) : Prop :=
  ∃ v ok, en = .returned (.tuple #[v, .bool ok]) ∧ Kept w w' NoB ∧ (procK 5 (startD s) = none → ok = false) ∧
    ∀ l, procK 5 (startD s) = some l → ok = true ∧ ∃ A c, v = .slice A 6 c ∧ Reads w' (fun k => w.heap.size ≤ k) A 6 (intsV l) ∧ 6 ≤ c
theorem nums_none {t : List UInt8} {i : Nat} {l : List Int} {x : List UInt8} (ha : allNum ((wsK 5 t).take i) = some l) (hx : (wsK 5 t)[i]? = some x) (hn : numW x = none) : procK 5 t = none := by
  obtain ⟨hlt, e⟩ := List.getElem?_eq_some_iff.1 hx
  have h : allNum ((wsK 5 t).take (i + 1)) = none := by
    rw [List.take_succ_eq_append_getElem hlt, e, allNum_snoc, ha, hn]
    rfl
  rw [← ws_proc 5 t, allNum_take _ h]
  rfl
theorem nums_more {t : List UInt8} {i : Nat} {l : List Int} {x : List UInt8} {v : Int} (ha : allNum ((wsK 5 t).take i) = some l) (hx : (wsK 5 t)[i]? = some x) (hn : numW x = some v) : allNum ((wsK 5 t).take (i + 1)) = some (l ++ [v]) := by
  obtain ⟨hlt, e⟩ := List.getElem?_eq_some_iff.1 hx
  rw [List.take_succ_eq_append_getElem hlt, e, allNum_snoc, ha, hn]
  rfl
theorem info_int : (Tryd.prog.info? 3).map (fun i => (i.zero, i.size, i.bytes)) = some (some (.int .i64 0), 1, 8) := by kernel_rfl
theorem intsV_length (l : List Int) : (intsV l).length = l.length := by simp [intsV]
def NmR (w0 : World) (s : List UInt8) (gk : Nat) (v6 v20 : Value) (wr : World) : Prop :=
  ∃ (i : Nat) (l : List Int), i ≤ (wsK 5 s).length ∧ gk = (wsK 5 s).length - i ∧ v20 = .int .i64 (i : Int) ∧ allNum ((wsK 5 s).take i) = some l ∧ Row wr 3 (fun b => w0.heap.size ≤ b) v6 (intsV l) ∧ Kept w0 wr NoB
set_option maxHeartbeats 4000000 in
set_option maxRecDepth 100000 in
theorem numbers_calls (w : World) (s : List UInt8) (hs : s.length ≤ 1099511627) (hm : MaxI w) (he : ErrT w) :
    Calls Tryd.prog 18 #[.string (strB s), .int .i64 6] w (NumsPost w s) := by
  have hix := indexAny_calls w s [48, 49, 50, 51, 52, 53, 54, 55, 56, 57] (by decide) (by decide) (by decide) (by omega)
  have hix' : Calls Tryd.prog 31 #[.string (strB s), .string ⟨#[48, 49, 50, 51, 52, 53, 54, 55, 56, 57]⟩] w fun en w' => en = .returned (.int .i64 (Lib.indexAny s [48, 49, 50, 51, 52, 53, 54, 55, 56, 57])) ∧ Kept w w' NoB := hix
  obtain ⟨q, hq⟩ : ∃ q, Lib.indexAny s [48, 49, 50, 51, 52, 53, 54, 55, 56, 57] = q := ⟨_, rfl⟩
  rw [hq] at hix'
  have HIX := Lib.hid hix'
  have HQ := Lib.hid hq
  clear hix hix' hq
  go_enter Tryd.func18, Tryd.ntmps18
  have hqb : -1 ≤ q ∧ q ≤ s.length := by
    rcases ixAny_digs s with ⟨_, h⟩ | ⟨_, h⟩
    · rw [HQ.out] at h; omega
    · rw [HQ.out] at h
      have := (List.takeWhile_prefix (l := s) (fun c => !digC c)).length_le
      omega
  obtain ⟨a, ha⟩ : ∃ a : Nat, max q 0 = (a : Int) := ⟨(max q 0).toNat, by omega⟩
  have hal : a ≤ s.length := by omega
  have hst : startD s = s.drop a := by unfold startD; rw [HQ.out, ha]; rfl
  go_wp2_with fail
  refine HIX.out.mono ?_
  rintro en w1 ⟨rfl, hk1⟩
  have HK1 := Lib.hid hk1
  have HST := Lib.hid hst
  clear hk1 hst
  have hcut : (strB s).extract a s.length = strB (s.drop a) := by
    rw [ix_cut, List.take_of_length_le (by simp)]
  obtain ⟨t, ht⟩ : ∃ t, s.drop a = t := ⟨_, rfl⟩
  have htl : t.length ≤ 1099511627 := by rw [← ht, List.length_drop]; omega
  rw [ht] at hcut
  have HT := Lib.hid ht
  clear ht
  go_wp2_with fail
  refine (splitN_calls w1 t htl (hm.kept0 HK1.out)).mono ?_
  rintro en w2 ⟨c2, rfl, hrd, hc2, hk2⟩
  have HRD := Lib.hid hrd
  have HK2 := Lib.hid (HK1.out.trans' hk2)
  have HE2 := Lib.hid ((he.kept0 HK1.out).kept0 hk2)
  have hpl := piecesK_le 5 t
  have hwl := wsK_length 5 t
  obtain ⟨n, hn⟩ : ∃ n, (piecesK 5 t).length = n := ⟨_, rfl⟩
  rw [hn] at hpl hwl hc2 ⊢
  have HN := Lib.hid hn
  clear hrd hk2 hn hcut
  go_wp2_with fail
  go_loopg [6, 7, 8, 9, 10, 20] n (fun gk v6 _ _ _ _ v20 wr => NmR w2 t gk v6 v20 wr)
  case atStart =>
    refine ⟨0, [], Nat.zero_le _, by rw [hwl]; rfl, rfl, rfl, Row.nil _ _ _, Kept.refl _ _⟩
  case round =>
    obtain ⟨i, l, hi, hgk, rfl, hal', hrow, hk⟩ := hrel
    have HG := Lib.hid hgk
    have HAL := Lib.hid hal'
    obtain ⟨A6, c6, rfl, hc6, hr6⟩ := hrow.readsN (n := l.length) (intsV_length l)
    have HROW := Lib.hid hrow
    have HR6 := Lib.hid hr6
    have HK := Lib.hid hk
    have hll : l.length = i := by have := allNum_length hal'; rw [List.length_take] at this; omega
    rw [hwl] at hi
    have HLL := Lib.hid hll
    clear hgk hal' hrow hk hr6 hll
    rcases Nat.lt_or_ge i n with hlt | hge
    · have hrw := HRD.out.kept0 HK.out
      rw [HN.out] at hrw
      obtain ⟨ad, u, had, hu, hcell⟩ := hrw.at_ (k := i) hlt
      obtain rfl := Option.some.inj had.symm
      rw [add_lit0] at hcell
      obtain ⟨p, hp⟩ : ∃ p, (piecesK 5 t)[i]? = some p := ⟨_, List.getElem?_eq_getElem (by rw [HN.out]; exact hlt)⟩
      have hue : u = .string (strB p) := by
        simp only [strs, List.getElem?_map, hp, Option.map_some] at hu
        exact (Option.some.inj hu).symm
      subst hue
      have hx := wsK_at 5 t i
      rw [hp, Option.map_some] at hx
      have hpl2 : p.length ≤ t.length := piecesK_short 5 t p (List.mem_of_getElem? hp)
      have HX := Lib.hid hx
      clear hx hp hu hrw had
      by_cases h5 : i = 5
      · have hx5 : (wsK 5 t)[i]? = some (p.takeWhile digC) := by rw [HX.out, if_pos h5]
        have h5' : ((i : Int) == 5) = true := by rw [beq_iff_eq]; omega
        obtain ⟨x, hx⟩ : ∃ x, p.takeWhile digC = x := ⟨_, rfl⟩
        obtain ⟨y, hy⟩ : ∃ y, p.dropWhile digC = y := ⟨_, rfl⟩
        have hxy : x ++ y = p := by rw [← hx, ← hy]; exact List.takeWhile_append_dropWhile
        have hxl : x.length + y.length = p.length := by rw [← hxy, List.length_append]
        rw [hx] at hx5
        have HX := Lib.hid hx5
        have htr := trimLeft_calls wr p
        rw [hy] at htr
        have HTR := Lib.hid htr
        have hsub : (p.length : Int) - (y.length : Int) = (x.length : Int) := by omega
        have hcutx : (strB p).extract 0 x.length = strB x := by
          rw [ix_cut, ← hxy]
          simp
        clear hx5 h5 hx hy hxy htr
        go_wp2_with fail
        refine HTR.out.mono ?_
        rintro en w3 ⟨rfl, hk3⟩
        have HK3 := Lib.hid (HK.out.trans' hk3)
        have HE3 := Lib.hid (HE2.out.kept0 (HK.out.trans' hk3))
        have HROW3 := Lib.hid (HROW.out.kept0 hk3)
        clear hk3
        go_wp2_with fail
        refine (number_any w3 x 255 (by omega) HE3.out).mono ?_
        rintro en w4 ⟨rfl, hk4⟩
        have HK4 := Lib.hid (HK3.out.trans' hk4)
        have HROW4 := Lib.hid (HROW3.out.kept0 hk4)
        clear hk4
        cases hr : numA x 255 with
        | none =>
          rw [show numR none = Value.tuple #[.int .i64 0, .bool false] from rfl]
          have hn : numW x = none := by unfold numW; rw [hr]; split <;> rfl
          have hnone := nums_none HAL.out HX.out hn
          have HNO := Lib.hid hnone
          clear hn hnone hr
          go_wp2_with fail
          go_ret2
          exact ⟨_, _, rfl, HK2.out.trans' HK4.out, fun _ => rfl, fun l' h' => by rw [HST.out, HT.out, HNO.out] at h'; cases h'⟩
        | some v =>
          rw [show numR (some v) = Value.tuple #[.int .i64 v, .bool true] from rfl]
          by_cases h3 : x.length ≤ 3
          · have hn : numW x = some v := by unfold numW; rw [if_pos h3, hr]
            have hmore := nums_more HAL.out HX.out hn
            have HM := Lib.hid hmore
            have t3 : ¬ ((3 : Int) < (x.length : Int)) := by omega
            clear hn hmore hr h3
            go_wp2_with (at_builtin; refine wpList_app1 (W := w4) rfl _ _ 39 3 (.int .i64 0) 8 rfl Tryd.underlying39 info_int rfl (by decide) (fun b => w2.heap.size ≤ b) (.slice A6 l.length c6) (intsV l) (.int .i64 v) rfl rfl rfl HROW4.out (fun k hk => Nat.le_trans HK4.out.size hk) (by rw [intsV_length]; have := HLL.out; omega) ?_; intro v5 w5 hrow5 hk5 hob5)
            go_roundg (n - (i + 1))
            case measure => have := HG.out; omega
            case rel =>
              refine ⟨i + 1, l ++ [v], by omega, by omega, rfl, HM.out, by rw [show intsV (l ++ [v]) = intsV l ++ [.int .i64 v] by simp [intsV]]; exact hrow5, HK4.out.trans hk5 fun b hb => .inr (HROW4.out.2 b hb)⟩
          · have hn : numW x = none := by unfold numW; rw [if_neg h3]
            have hnone := nums_none HAL.out HX.out hn
            have HNO := Lib.hid hnone
            have t3 : (3 : Int) < (x.length : Int) := by omega
            clear hn hnone hr h3
            go_wp2_with fail
            go_ret2
            exact ⟨_, _, rfl, HK2.out.trans' HK4.out, fun _ => rfl, fun l' h' => by rw [HST.out, HT.out, HNO.out] at h'; cases h'⟩
      · have hx5 : (wsK 5 t)[i]? = some p := by rw [HX.out, if_neg h5]
        have h5' : ((i : Int) == 5) = false := by rw [beq_eq_false_iff_ne]; omega
        have HX := Lib.hid hx5
        clear hx5 h5
        go_wp2_with fail
        refine (number_any wr p 255 (by omega) (HE2.out.kept0 HK.out)).mono ?_
        rintro en w4 ⟨rfl, hk4⟩
        have HK4 := Lib.hid (HK.out.trans' hk4)
        have HROW4 := Lib.hid (HROW.out.kept0 hk4)
        clear hk4
        cases hr : numA p 255 with
        | none =>
          rw [show numR none = Value.tuple #[.int .i64 0, .bool false] from rfl]
          have hn : numW p = none := by unfold numW; rw [hr]; split <;> rfl
          have hnone := nums_none HAL.out HX.out hn
          have HNO := Lib.hid hnone
          clear hn hnone hr
          go_wp2_with fail
          go_ret2
          exact ⟨_, _, rfl, HK2.out.trans' HK4.out, fun _ => rfl, fun l' h' => by rw [HST.out, HT.out, HNO.out] at h'; cases h'⟩
        | some v =>
          rw [show numR (some v) = Value.tuple #[.int .i64 v, .bool true] from rfl]
          by_cases h3 : p.length ≤ 3
          · have hn : numW p = some v := by unfold numW; rw [if_pos h3, hr]
            have hmore := nums_more HAL.out HX.out hn
            have HM := Lib.hid hmore
            have t3 : ¬ ((3 : Int) < (p.length : Int)) := by omega
            clear hn hmore hr h3
            go_wp2_with (at_builtin; refine wpList_app1 (W := w4) rfl _ _ 39 3 (.int .i64 0) 8 rfl Tryd.underlying39 info_int rfl (by decide) (fun b => w2.heap.size ≤ b) (.slice A6 l.length c6) (intsV l) (.int .i64 v) rfl rfl rfl HROW4.out (fun k hk => Nat.le_trans HK4.out.size hk) (by rw [intsV_length]; have := HLL.out; omega) ?_; intro v5 w5 hrow5 hk5 hob5)
            go_roundg (n - (i + 1))
            case measure => have := HG.out; omega
            case rel =>
              refine ⟨i + 1, l ++ [v], by omega, by omega, rfl, HM.out, by rw [show intsV (l ++ [v]) = intsV l ++ [.int .i64 v] by simp [intsV]]; exact hrow5, HK4.out.trans hk5 fun b hb => .inr (HROW4.out.2 b hb)⟩
          · have hn : numW p = none := by unfold numW; rw [if_neg h3]
            have hnone := nums_none HAL.out HX.out hn
            have HNO := Lib.hid hnone
            have t3 : (3 : Int) < (p.length : Int) := by omega
            clear hn hnone hr h3
            go_wp2_with fail
            go_ret2
            exact ⟨_, _, rfl, HK2.out.trans' HK4.out, fun _ => rfl, fun l' h' => by rw [HST.out, HT.out, HNO.out] at h'; cases h'⟩
    · obtain rfl : i = n := by omega
      have hall : (wsK 5 t).take i = wsK 5 t := List.take_of_length_le (by omega)
      have hpr := ws_proc 5 t
      have hal2 := HAL.out
      rw [hall] at hal2
      rw [hal2, Option.bind_some] at hpr
      have HPR := Lib.hid hpr
      clear hall hpr hal2
      by_cases h6 : l.length = 6
      · have h6' : ((l.length : Int) == 6) = true := by rw [beq_iff_eq]; omega
        have H6 := Lib.hid h6
        clear h6
        go_wp2_with fail
        go_ret2
        refine ⟨_, _, rfl, HK2.out.trans' HK.out, fun h' => ?_, fun l' h' => ?_⟩
        · rw [HST.out, HT.out, ← HPR.out, if_pos H6.out] at h'; cases h'
        · rw [HST.out, HT.out, ← HPR.out, if_pos H6.out] at h'
          obtain rfl := Option.some.inj h'
          have h1 := HR6.out
          have h2 := H6.out
          refine ⟨rfl, A6, c6, by rw [h2]; rfl, ?_, by omega⟩
          rw [h2] at h1
          exact h1.mono fun b _ hb => Nat.le_trans HK2.out.size hb
      · have h6' : ((l.length : Int) == 6) = false := by rw [beq_eq_false_iff_ne]; omega
        have H6 := Lib.hid h6
        clear h6
        go_wp2_with fail
        go_ret2
        refine ⟨_, _, rfl, HK2.out.trans' HK.out, fun h' => rfl, fun l' h' => ?_⟩
        rw [HST.out, HT.out, ← HPR.out, if_neg H6.out] at h'
        cases h'
end Go.Proofs.YtlbipnfnimekfaaDoor
