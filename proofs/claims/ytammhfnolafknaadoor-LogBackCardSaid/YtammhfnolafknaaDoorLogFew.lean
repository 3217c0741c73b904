/- few. -/
import Derived.Test.YtammhfnolafknaaDoorLogF
set_option linter.unusedVariables false
set_option linter.unusedSimpArgs false
namespace Go.Proofs.YtammhfnolafknaaDoor
open Go.RowKit Go.Shelf Go.Lib Go.Sort

def cutE (e : Ent) : Ent := (e.1, e.2.1, e.2.2.take 100)
def fewL (es : List Ent) : List Ent := (es.take 30).map cutE
theorem fewL_len (es : List Ent) : (fewL es).length ≤ 30 := by unfold fewL; rw [List.length_map, List.length_take]; omega
theorem fewL_wf {es : List Ent} (h : ∀ e ∈ es, wfE 9223372036854775807 e) : ∀ e ∈ fewL es, wfE 100 e := by
  intro e he
  unfold fewL at he
  obtain ⟨x, hx, rfl⟩ := List.mem_map.1 he
  obtain ⟨h0, h1, h2, h3, _⟩ := h x (List.mem_of_mem_take hx)
  exact ⟨h0, h1, h2, h3, by show (x.2.2.take 100).length ≤ 100; rw [List.length_take]; omega⟩
theorem ent_new (W : World) (e : Ent) : EntR (W.alloc (.cells #[.int .i64 e.1, .int .i64 e.2.1, .string (strB e.2.2)] 35)) (fun k => k = W.heap.size) (some ⟨W.heap.size, 0, none⟩) 1 [e] := by
  have hb := Blk.new W 35 #[.int .i64 e.1, .int .i64 e.2.1, .string (strB e.2.2)]
  refine ⟨rfl, fun _ => ⟨_, rfl, rfl, hb.lt, fun i hi => ?_⟩⟩
  obtain rfl : i = 0 := by simp at hi; exact hi
  exact ⟨hb.cell 0, hb.cell 1, hb.cell 2⟩
theorem ent_new2 (W : World) (o : Obj) (a k : Int) (t : List UInt8) : EntR ((W.alloc o).alloc (.cells #[.int .i64 a, .int .i64 k, .string (strB t)] 35)) (fun b => b = W.heap.size + 1) (some ⟨W.heap.size + 1, 0, none⟩) 1 [(a, k, t)] := by
  have h := ent_new (W.alloc o) (a, k, t)
  rw [World.size_alloc] at h
  exact h
def FwS (w0 : World) (es : List Ent) (N gk : Nat) (v3 v4 : Value) (wr : World) : Prop :=
  ∃ i, i ≤ N ∧ gk = N - i ∧ v4 = .int .i64 ((i : Nat) : Int) ∧ RowE wr (fun k => w0.heap.size ≤ k) v3 ((es.take i).map cutE) ∧ Kept w0 wr NoB
set_option maxHeartbeats 8000000 in
set_option maxRecDepth 100000 in
theorem few_calls (w : World) (S : Nat → Prop) (A : Option Addr) (n c : Nat) (es : List Ent) (hA : EntR w S A n es) (hn : n ≤ 9223372036854775807) (hwf : ∀ e ∈ es, wfE 9223372036854775807 e) :
    Calls Tryd.prog 9 #[.slice A n c] w fun en w' => ∃ v, en = .returned v ∧ RowE w' (fun k => w.heap.size ≤ k) v (fewL es) ∧ Kept w w' NoB := by
  have hln : es.length = n := hA.1
  have HA := Lib.hid hA
  have HLN := Lib.hid hln
  have HWF := Lib.hid hwf
  obtain ⟨N, hN⟩ : ∃ N, min n 30 = N := ⟨_, rfl⟩
  have hNn : N ≤ n := by omega
  have hN30 : N ≤ 30 := by omega
  have hNor : N = n ∨ N = 30 := by omega
  have HNE := Lib.hid hN
  have HNOR := Lib.hid hNor
  clear hA hln hwf hN hNor
  go_enter Tryd.func9, Tryd.ntmps9
  go_wp2_with fail
  go_loopg [3, 4] N (fun gk v3 v4 wr => FwS w es N gk v3 v4 wr)
  case atStart => exact ⟨0, Nat.zero_le _, rfl, rfl, RowE.made0 _ _ (Nat.le_refl _), (Kept.refl _ _).alloc _⟩
  case round =>
    obtain ⟨i, hi, hgk, rfl, hrow, hkr⟩ := hrel
    have HG := Lib.hid hgk
    have HKR := Lib.hid hkr
    have hsr := hkr.size
    have hmln : ((es.take i).map cutE).length = i := by rw [List.length_map, List.length_take]; have := HLN.out; omega
    obtain ⟨V3, c3, rfl, hc3, _⟩ := hrow.ent hmln
    have HROW := Lib.hid hrow
    have HML := Lib.hid hmln
    clear hgk hkr hrow hmln
    rcases Nat.lt_or_ge i N with hlt | hge
    · have hie : i < es.length := by have := HLN.out; omega
      obtain ⟨ad, hAd, k0, k1, k2⟩ := (HA.out.kept0 HKR.out).at_ (show i < n by omega) hie
      subst hAd
      have hwfi := HWF.out es[i] (List.getElem_mem hie)
      have hsn : (es.take (i + 1)).map cutE = (es.take i).map cutE ++ [cutE es[i]] := by rw [List.take_succ_eq_append_getElem hie, List.map_append]; rfl
      obtain ⟨e, he⟩ : ∃ e, es[i] = e := ⟨_, rfl⟩
      rw [he] at k0 k1 k2 hwfi hsn
      obtain ⟨at_, kd, tx⟩ := e
      dsimp only at k0 k1 k2
      have htx : tx.length ≤ 9223372036854775807 := hwfi.2.2.2.2
      have hci : cutE (at_, kd, tx) = (at_, kd, tx.take 100) := rfl
      rw [hci] at hsn
      have HSN := Lib.hid hsn
      have hszt : (strB tx).size = tx.length := strB_size tx
      have hcut : (strB tx).extract 0 100 = strB (tx.take 100) := by rw [strB_cut]; rfl
      have ti : (i : Int) < (n : Int) := by omega
      have ti2 : (i : Int) < 30 := by omega
      clear hwfi hci hsn he
      by_cases h100 : 100 < tx.length
      · have tt : (100 : Int) < (tx.length : Int) := by omega
        obtain ⟨t2, ht2⟩ : ∃ t, tx.take 100 = t := ⟨_, rfl⟩
        rw [ht2] at HSN hcut
        clear ht2
        have HROWN := Lib.hid (HROW.out.kept0 (((Kept.refl wr NoB).alloc (.cells #[.int .i64 at_, .int .i64 kd, .string (strB t2)] 35)).alloc (.cells #[.int .i64 at_, .int .i64 kd, .string (strB t2)] 35)))
        go_wp2_with (at_builtin; refine wpList_appE (W := ((wr.alloc (.cells #[.int .i64 at_, .int .i64 kd, .string (strB t2)] 35)).alloc (.cells #[.int .i64 at_, .int .i64 kd, .string (strB t2)] 35))) rfl _ _ rfl (fun k => w.heap.size ≤ k) (fun b => b = wr.heap.size + 1) (.slice V3 i c3) ((es.take i).map cutE) [(at_, kd, t2)] (some ⟨wr.heap.size + 1, 0, none⟩) 1 1 rfl rfl HROWN.out (ent_new2 _ _ _ _ _) (fun k hk => by simp only [World.size_alloc] at hk; omega) (by rw [HML.out]; omega) ?_; intro v1 w1 hown hkp hob)
        have HOWN := Lib.hid hown
        have HKP := Lib.hid (((HKR.out.alloc (.cells #[.int .i64 at_, .int .i64 kd, .string (strB t2)] 35)).alloc (.cells #[.int .i64 at_, .int .i64 kd, .string (strB t2)] 35)).trans hkp fun b hb => .inr (HROW.out.2 b hb))
        clear hown hkp hob
        go_wp2_with fail
        go_roundg (N - (i + 1))
        case measure => have := HG.out; omega
        case rel => exact ⟨i + 1, hlt, rfl, by go_num, by rw [HSN.out]; exact HOWN.out, HKP.out⟩
      · have tt : ¬ (100 : Int) < (tx.length : Int) := by omega
        rw [List.take_of_length_le (l := tx) (i := 100) (by omega)] at HSN
        have HROWN := Lib.hid (HROW.out.kept0 (((Kept.refl wr NoB).alloc (.cells #[.int .i64 at_, .int .i64 kd, .string (strB tx)] 35)).alloc (.cells #[.int .i64 at_, .int .i64 kd, .string (strB tx)] 35)))
        go_wp2_with (at_builtin; refine wpList_appE (W := ((wr.alloc (.cells #[.int .i64 at_, .int .i64 kd, .string (strB tx)] 35)).alloc (.cells #[.int .i64 at_, .int .i64 kd, .string (strB tx)] 35))) rfl _ _ rfl (fun k => w.heap.size ≤ k) (fun b => b = wr.heap.size + 1) (.slice V3 i c3) ((es.take i).map cutE) [(at_, kd, tx)] (some ⟨wr.heap.size + 1, 0, none⟩) 1 1 rfl rfl HROWN.out (ent_new2 _ _ _ _ _) (fun k hk => by simp only [World.size_alloc] at hk; omega) (by rw [HML.out]; omega) ?_; intro v1 w1 hown hkp hob)
        have HOWN := Lib.hid hown
        have HKP := Lib.hid (((HKR.out.alloc (.cells #[.int .i64 at_, .int .i64 kd, .string (strB tx)] 35)).alloc (.cells #[.int .i64 at_, .int .i64 kd, .string (strB tx)] 35)).trans hkp fun b hb => .inr (HROW.out.2 b hb))
        clear hown hkp hob
        go_wp2_with fail
        go_roundg (N - (i + 1))
        case measure => have := HG.out; omega
        case rel => exact ⟨i + 1, hlt, rfl, by go_num, by rw [HSN.out]; exact HOWN.out, HKP.out⟩
    · obtain rfl : i = N := by omega
      have hfin : fewL es = (es.take i).map cutE := by
        unfold fewL
        congr 1
        rcases HNOR.out with h | h
        · rw [List.take_of_length_le (by have := HLN.out; omega), List.take_of_length_le (by have := HLN.out; omega)]
        · rw [h]
      have HF := Lib.hid hfin
      clear hfin
      rcases HNOR.out with h | h
      · have ti : ¬ (i : Int) < (n : Int) := by omega
        clear h
        go_wp2_with fail
        all_goals
          go_ret
          exact ⟨_, rfl, by rw [HF.out]; exact HROW.out, HKR.out⟩
      · have ti2 : ¬ (i : Int) < 30 := by omega
        clear h
        go_wp2_with fail
        all_goals
          go_ret
          exact ⟨_, rfl, by rw [HF.out]; exact HROW.out, HKR.out⟩
end Go.Proofs.YtammhfnolafknaaDoor
