/- What a shown text means. -/
import Derived.Test.YtammhfnolafknaaDoorLogU
set_option linter.unusedVariables false
set_option linter.unusedSimpArgs false
namespace Go.Proofs.YtammhfnolafknaaDoor
open Go.RowKit Go.Shelf

def pieceL (p : List UInt8) : Option (List UInt8) := (unL (p.take 2)).map (· :: p.drop 2)
def joinP : List (List UInt8) → Option (List UInt8)
  | [] => some []
  | p :: ps => (pieceL p).bind fun x => (joinP ps).map (x ++ ·)
theorem joinP_app : ∀ (ps qs : List (List UInt8)), joinP (ps ++ qs) = (joinP ps).bind fun x => (joinP qs).map (x ++ ·)
  | [], qs => by simp [joinP]
  | p :: ps, qs => by
    rw [List.cons_append, joinP, joinP, joinP_app ps qs]
    cases pieceL p with
    | none => rfl
    | some x =>
      cases joinP ps with
      | none => rfl
      | some y =>
        cases joinP qs with
        | none => rfl
        | some z => simp
theorem joinP_more {ps : List (List UInt8)} {i : Nat} (h : i < ps.length) {acc x : List UInt8} (ha : joinP (ps.take i) = some acc) (hx : pieceL ps[i] = some x) : joinP (ps.take (i + 1)) = some (acc ++ x) := by
  rw [List.take_succ_eq_append_getElem h, joinP_app, ha]
  simp [joinP, hx]
theorem joinP_stop {ps : List (List UInt8)} {i : Nat} (h : i < ps.length) (hx : pieceL ps[i] = none) : joinP ps = none := by
  have e : ps = ps.take i ++ ps[i] :: ps.drop (i + 1) := by rw [← List.drop_eq_getElem_cons h, List.take_append_drop]
  rw [e, joinP_app]
  cases joinP (ps.take i) with
  | none => rfl
  | some y => simp [joinP, hx]
def meantL (l : List UInt8) : Option (List UInt8) := (joinP (Lib.split l [92, 120]).tail).bind fun x => if showL ((Lib.split l [92, 120]).headD [] ++ x) = l then some ((Lib.split l [92, 120]).headD [] ++ x) else none
theorem splitK_piece (sep : List UInt8) : ∀ (k : Nat) (s : List UInt8), ∀ x ∈ Lib.splitK sep 0 k s, x.length ≤ s.length
  | 0, s, x, hx => by rw [Lib.splitK, List.mem_singleton] at hx; rw [hx]; exact Nat.le_refl _
  | k + 1, s, x, hx => by
    rw [Lib.splitK] at hx
    split at hx
    · rw [List.mem_singleton] at hx
      rw [hx]
      exact Nat.le_refl _
    · rw [List.mem_cons] at hx
      rcases hx with rfl | hx
      · rw [List.length_take]; omega
      · have := splitK_piece sep k _ x hx
        rw [List.length_drop] at this
        omega
theorem split_ne (l sep : List UInt8) : Lib.split l sep ≠ [] := by
  unfold Lib.split
  cases Lib.count l sep with
  | zero => simp [Lib.splitK]
  | succ k => rw [Lib.splitK]; split <;> simp
theorem unL_len {l : List UInt8} {v : UInt8} (h : unL l = some v) : l.length = 2 := by
  rcases l with _ | ⟨a, _ | ⟨b, _ | ⟨c, r⟩⟩⟩
  · cases h
  · cases h
  · rfl
  · cases h

theorem bldF_kept0 {w w' : World} {b : Nat} {bs : List Value} (h : Lib.IsBuilderF 43 5 b b bs w) (k : Kept w w' NoB) : Lib.IsBuilderF 43 5 b b bs w' := by
  have own : ∀ {v : Value} {n : Nat} {xs : List Value}, w.ownsRowF b 5 1 v n xs → w'.ownsRowF b 5 1 v n xs := by
    intro v n xs h
    refine ⟨h.1, ?_⟩
    rcases h.2 with h2 | ⟨g, cap, cur, fz, rfl, hb, hh, r⟩
    · exact .inl h2
    · exact .inr ⟨g, cap, cur, fz, rfl, hb, k.heap hh fun x => x, r⟩
  rcases h with ⟨hB, v, hb, hown, hne⟩ | ⟨hB, v, hb, hown, hne⟩
  · exact .inl ⟨hB, v, k.heap hb fun x => x, own hown, hne⟩
  · exact .inr ⟨hB, v, k.heap hb fun x => x, own hown, hne⟩
def MnS (W : World) (b : Nat) (hd : List UInt8) (ps : List (List UInt8)) (gk : Nat) (v : Value) (wr : World) : Prop :=
  ∃ i acc, i ≤ ps.length ∧ gk = ps.length - i ∧ v = .int .i64 ((i : Nat) : Int) ∧ joinP (ps.take i) = some acc ∧ acc.length ≤ 20000 * i ∧ Bld wr b (hd ++ acc) ∧ Below b W wr
set_option maxHeartbeats 8000000 in
set_option maxRecDepth 100000 in
theorem meant_calls (w : World) (l : List UInt8) (hl : l.length ≤ 20000) (hm : MaxI w) :
    Calls Tryd.prog 14 #[.string (strB l)] w fun en w' => en = .returned (.tuple #[.string (strB ((meantL l).getD [])), .bool (meantL l).isSome]) ∧ Kept w w' NoB := by
  obtain ⟨hd, ps, hsp⟩ : ∃ hd ps, Lib.split l [92, 120] = hd :: ps := by
    cases h : Lib.split l [92, 120] with
    | nil => exact absurd h (split_ne _ _)
    | cons a r => exact ⟨a, r, rfl⟩
  have hmean : meantL l = (joinP ps).bind fun x => if showL (hd ++ x) = l then some (hd ++ x) else none := by
    unfold meantL
    rw [hsp]
    rfl
  have hlen := split_len l [92, 120]
  rw [hsp, List.length_cons] at hlen
  have hpc : ∀ x ∈ hd :: ps, x.length ≤ 20000 := fun x hx => by
    rw [← hsp] at hx
    unfold Lib.split at hx
    exact Nat.le_trans (splitK_piece _ _ _ x hx) hl
  have hhd := hpc hd (List.mem_cons_self ..)
  have hps : ∀ x ∈ ps, x.length ≤ 20000 := fun x hx => hpc x (List.mem_cons_of_mem _ hx)
  have HPS := Lib.hid hps
  have HM := Lib.hid hmean
  clear hps hpc hmean
  go_enter Tryd.func14, Tryd.ntmps14
  go_wp2_with fail
  refine (split_calls w l [92, 120] (by omega) (by decide) hm rfl).mono ?_
  rw [hsp]
  rintro en w1 ⟨rfl, hw1⟩
  have hk1 : Kept w w1 NoB := by rw [hw1]; exact (Kept.refl _ _).alloc _
  have hblk := Blk.new w 9 (strs (hd :: ps)).toArray
  rw [← hw1] at hblk
  have hs1 : w1.heap.size = w.heap.size + 1 := by rw [hw1]; simp
  have c0 : w1.cell? ⟨w.heap.size, 0, none⟩ = some (.string (strB hd)) := by
    rw [cell_of_row w1 _ 0 _ _ (0, 0) hblk]
    rfl
  have hcs : ∀ i, (h : i < ps.length) → w1.cell? ⟨w.heap.size, 1 + i, none⟩ = some (.string (strB ps[i])) := fun i h => by
    rw [cell_of_row w1 _ (1 + i) _ _ (0, 0) hblk]
    have := strs_at (hd :: ps) (1 + i) (by rw [List.length_cons]; omega)
    rw [show ((hd :: ps)[1 + i]'(by rw [List.length_cons]; omega)) = ps[i] by simp only [Nat.add_comm 1 i, List.getElem_cons_succ]] at this
    simpa using this
  have HCS := Lib.hid hcs
  have HK1 := Lib.hid hk1
  obtain ⟨N, hN⟩ : ∃ N, ps.length = N := ⟨_, rfl⟩
  rw [List.length_cons]
  rw [hN] at hlen ⊢
  have HN := Lib.hid hN
  clear hcs hk1 hblk hsp hw1 hN
  go_wp2_with fail
  have hb0 : Bld (w1.alloc (.cells #[.pointer none, .slice none 0 0] 43)) (w.heap.size + 1) [] := by
    rw [← hs1]
    exact Bld.new w1
  refine (writeString_calls (w.heap.size + 1) [] hd _ hb0 (by simp; omega)).mono ?_
  rintro en W ⟨rfl, hb1, hbe1⟩
  have hbe : Below (w.heap.size + 1) w1 W := (((Below.refl _ w1).alloc (by omega) _)).trans hbe1
  have hsW := hbe.size
  have HCW : Hid (∀ i, (h : i < ps.length) → W.cell? ⟨w.heap.size, 1 + i, none⟩ = some (.string (strB ps[i]))) := fun i h => by
    rw [hbe.cell (p := ⟨w.heap.size, 1 + i, none⟩) (Nat.lt_succ_self _)]
    exact HCS.out i h
  have HB1 := Lib.hid hb1
  have HBE := Lib.hid hbe
  have HMI := Lib.hid hm
  rw [List.nil_append] at HB1
  clear hb0 hb1 hbe1 hbe HCS c0 hm
  by_cases hN0 : N = 0
  · subst hN0
    go_wp2_with fail
    go_loopg [19] 0 (fun gk v wr => MnS W (w.heap.size + 1) hd ps gk v wr)
    case atStart => exact ⟨0, [], Nat.zero_le _, HN.out.symm, rfl, rfl, Nat.zero_le _, by rw [List.append_nil]; exact HB1.out, Below.refl _ _⟩
    case round =>
      obtain ⟨i, acc, hi, hgk, rfl, hj, hal, hb, hbr⟩ := hrel
      have HG := Lib.hid hgk
      have HJ := Lib.hid hj
      have HB := Lib.hid hb
      have HBR := Lib.hid hbr
      have hsr := hbr.size
      have hiN : i ≤ 0 := by have := HN.out; omega
      clear hgk hj hb hbr hi
      rcases Nat.lt_or_ge i 0 with hlt | hge
      · exact absurd hlt (by omega)
      · obtain rfl : i = 0 := by omega
        have hjp : joinP ps = some acc := by
          have h := HJ.out
          rw [List.take_of_length_le (by have := HN.out; omega)] at h
          exact h
        have hmn : meantL l = if showL (hd ++ acc) = l then some (hd ++ acc) else none := by rw [HM.out, hjp]; rfl
        have hrl : (hd ++ acc).length ≤ 1099511627 := by rw [List.length_append]; omega
        obtain ⟨r, hr⟩ : ∃ r, hd ++ acc = r := ⟨_, rfl⟩
        rw [hr] at hmn hrl HB
        have HMN := Lib.hid hmn
        clear hjp hmn hr
        have hW2 := (HBE.out.trans HBR.out)
        have HW2 := Lib.hid hW2
        clear hW2
        have hbw : w.heap.size + 1 ≤ wr.heap.size := Nat.le_of_lt HB.out.lt
        go_wp2_with fail
        refine (Any.Builder_String_any_k shLays169 bE169 (w.heap.size + 1) (w.heap.size + 1) r wr (Lib.IsBuilderF.of HB.out) hbw).mono ?_
        rintro en w3 ⟨rfl, hF3, hb3, hok3⟩
        have HF3 := Lib.hid hF3
        have HW3 := Lib.hid (HW2.out.trans hb3)
        clear hF3 hb3 hok3
        have e3 : (⟨r.toArray⟩ : ByteArray) = strB r := rfl
        rw [e3]
        go_wp2_with fail
        refine (shownL_calls w3 r hrl).mono ?_
        rintro en w4 ⟨rfl, hk4⟩
        have HF4 := Lib.hid (bldF_kept0 HF3.out hk4)
        have HW4 := Lib.hid (HW3.out.trans (hk4.below.mono (by have := HW3.out.size; omega)))
        have hbw4 : w.heap.size + 1 ≤ w4.heap.size := by have := HW3.out.size; have := hk4.size; omega
        clear hk4
        by_cases hsl : showL r = l
        · have ht : (showL r == l) = true := by rw [beq_iff_eq]; exact hsl
          have HSL := Lib.hid hsl
          clear hsl
          go_wp2_with fail
          refine (Any.Builder_String_any_k shLays169 bE169 (w.heap.size + 1) (w.heap.size + 1) r w4 HF4.out hbw4).mono ?_
          rintro en w5 ⟨rfl, hF5, hb5, hok5⟩
          have HW5 := Lib.hid (HW4.out.trans hb5)
          clear hF5 hb5 hok5
          go_wp2_with fail
          go_ret2
          refine ⟨?_, HK1.out.trans' (Kept.of_below (HW5.out.mono (by omega)))⟩
          rw [HMN.out, if_pos HSL.out]
          rfl
        · have ht : (showL r == l) = false := by rw [beq_eq_false_iff_ne]; exact hsl
          have HSL := Lib.hid hsl
          clear hsl
          go_wp2_with fail
          go_ret2
          refine ⟨?_, HK1.out.trans' (Kept.of_below (HW4.out.mono (by omega)))⟩
          rw [HMN.out, if_neg HSL.out]
          rfl
  · go_wp2_with fail
    go_loopg [19] N (fun gk v wr => MnS W (w.heap.size + 1) hd ps gk v wr)
    case atStart => exact ⟨0, [], Nat.zero_le _, HN.out.symm, rfl, rfl, Nat.zero_le _, by rw [List.append_nil]; exact HB1.out, Below.refl _ _⟩
    case round =>
      obtain ⟨i, acc, hi, hgk, rfl, hj, hal, hb, hbr⟩ := hrel
      have HG := Lib.hid hgk
      have HJ := Lib.hid hj
      have HB := Lib.hid hb
      have HBR := Lib.hid hbr
      have hsr := hbr.size
      have hiN : i ≤ N := by have := HN.out; omega
      clear hgk hj hb hbr hi
      rcases Nat.lt_or_ge i N with hlt | hge
      · have hip : i < ps.length := by have := HN.out; omega
        have hcell : wr.cell? ⟨w.heap.size, 1 + i, none⟩ = some (.string (strB ps[i])) := by
          rw [HBR.out.cell (p := ⟨w.heap.size, 1 + i, none⟩) (Nat.lt_succ_self _)]
          exact HCW.out i hip
        have ti : (i : Int) < (N : Int) := by omega
        have hpl := HPS.out ps[i] (List.getElem_mem hip)
        have HMORE : Hid (∀ x, pieceL ps[i] = some x → joinP (ps.take (i + 1)) = some (acc ++ x)) := fun x hx => joinP_more hip HJ.out hx
        have HSTOP : Hid (pieceL ps[i] = none → joinP ps = none) := fun hx => joinP_stop hip hx
        obtain ⟨p, hp⟩ : ∃ p, ps[i] = p := ⟨_, rfl⟩
        rw [hp] at hcell hpl HMORE HSTOP
        obtain ⟨k, hk⟩ : ∃ k, min p.length 2 = k := ⟨_, rfl⟩
        have hk2 : k ≤ 2 := by omega
        have hkp : k ≤ p.length := by omega
        have hmin : min (p.length : Int) 2 = (k : Int) := by omega
        have hcut : (strB p).extract 0 k = strB (p.take 2) := by
          rw [strB_cut, List.drop_zero, Nat.sub_zero, ← hk, List.take_eq_take_min (i := 2), Nat.min_comm]
        have hszp : (strB p).size = p.length := strB_size p
        have htl : (p.take 2).length ≤ 2 := by rw [List.length_take]; omega
        have hlw : (p.drop 2).length ≤ 20000 := by rw [List.length_drop]; omega
        have HK2 := Lib.hid hk
        have hlt4 : (p.drop 2).length + 1 ≤ 20000 ∨ p.length < 2 := by rw [List.length_drop]; omega
        clear hp hk
        go_wp2_with fail
        refine (unhex_calls wr (p.take 2) htl).mono ?_
        rintro en w2 ⟨A, n, c, ok, rfl, hk2w, hcase⟩
        have HK2W := Lib.hid hk2w
        have HB2 := Lib.hid (HB.out.kept0 hk2w)
        have HW2 := Lib.hid ((HBE.out.trans HBR.out).trans (hk2w.below.mono (by omega)))
        have hs2 := hk2w.size
        clear hk2w
        rcases hcase with ⟨hno, hbad⟩ | ⟨v, hv, rfl, rfl, hrd⟩
        · have hmn : meantL l = none := by
            rw [HM.out, HSTOP.out (by unfold pieceL; rw [hno]; rfl)]
            rfl
          have HMN := Lib.hid hmn
          clear hno hmn
          rcases hbad with rfl | rfl
          · go_wp2_with fail
            go_ret2
            exact ⟨by rw [HMN.out]; rfl, HK1.out.trans' (Kept.of_below (HW2.out.mono (by omega)))⟩
          · cases ok
            · go_wp2_with fail
              go_ret2
              exact ⟨by rw [HMN.out]; rfl, HK1.out.trans' (Kept.of_below (HW2.out.mono (by omega)))⟩
            · go_wp2_with fail
              go_ret2
              exact ⟨by rw [HMN.out]; rfl, HK1.out.trans' (Kept.of_below (HW2.out.mono (by omega)))⟩
        · have hp2 := unL_len hv
          rw [List.length_take] at hp2
          have hpc2 : pieceL p = some (v :: p.drop 2) := by unfold pieceL; rw [hv]; rfl
          have HNEXT := Lib.hid (HMORE.out _ hpc2)
          obtain ⟨ad, rfl, hge2, hlt2, hcs2⟩ := hrd.2 (by omega)
          have HCS2 := Lib.hid hcs2
          have hbl := HB.out.lt
          have hpge : 2 ≤ p.length := by omega
          have hcut2 : (strB p).extract 2 p.length = strB (p.drop 2) := by
            rw [strB_cut, List.take_of_length_le (by rw [List.length_drop]; exact Nat.le_refl _)]
          have hacc : (hd ++ acc).length ≤ 20000 * i + 20000 := by rw [List.length_append]; omega
          obtain ⟨q, hq⟩ : ∃ q, p.drop 2 = q := ⟨_, rfl⟩
          rw [hq] at hlw hcut2 HNEXT hlt4
          obtain ⟨r, hr⟩ : ∃ r, hd ++ acc = r := ⟨_, rfl⟩
          rw [hr] at HB2 hacc
          have HR := Lib.hid hr
          clear hp2 hpc2 hv hrd hcs2 hq hr hcut hmin htl
          go_wp2_with fail
          refine (write_calls (w.heap.size + 1) r [v] w2 HB2.out NoB ad 1 c rfl HCS2.out (by omega) hlt2 (by simp; omega)).mono ?_
          rintro en w3 ⟨rfl, hb3, hbe3⟩
          have HB3 := Lib.hid hb3
          have HW3 := Lib.hid (HBR.out.trans ((HK2W.out.below.mono (by omega)).trans hbe3))
          clear hb3 hbe3
          go_wp2_with fail
          refine (writeString_calls (w.heap.size + 1) (r ++ [v]) q w3 HB3.out (by simp; omega)).mono ?_
          rintro en w4 ⟨rfl, hb4, hbe4⟩
          have HB4 := Lib.hid hb4
          have HW4 := Lib.hid (HW3.out.trans hbe4)
          clear hb4 hbe4
          go_wp2_with fail
          go_roundg (N - (i + 1))
          case measure => have := HG.out; have := HN.out; omega
          case rel => exact ⟨i + 1, acc ++ v :: q, by omega, by have := HN.out; omega, by go_num, HNEXT.out, by rw [List.length_append, List.length_cons]; omega, by have h := HB4.out; rw [← HR.out] at h; simpa using h, HW4.out⟩
      · obtain rfl : i = N := by omega
        have hjp : joinP ps = some acc := by
          have h := HJ.out
          rw [List.take_of_length_le (by have := HN.out; omega)] at h
          exact h
        have hmn : meantL l = if showL (hd ++ acc) = l then some (hd ++ acc) else none := by rw [HM.out, hjp]; rfl
        have hrl : (hd ++ acc).length ≤ 1099511627 := by rw [List.length_append]; omega
        obtain ⟨r, hr⟩ : ∃ r, hd ++ acc = r := ⟨_, rfl⟩
        rw [hr] at hmn hrl HB
        have HMN := Lib.hid hmn
        clear hjp hmn hr
        have hW2 := (HBE.out.trans HBR.out)
        have HW2 := Lib.hid hW2
        clear hW2
        have hbw : w.heap.size + 1 ≤ wr.heap.size := Nat.le_of_lt HB.out.lt
        go_wp2_with fail
        refine (Any.Builder_String_any_k shLays169 bE169 (w.heap.size + 1) (w.heap.size + 1) r wr (Lib.IsBuilderF.of HB.out) hbw).mono ?_
        rintro en w3 ⟨rfl, hF3, hb3, hok3⟩
        have HF3 := Lib.hid hF3
        have HW3 := Lib.hid (HW2.out.trans hb3)
        clear hF3 hb3 hok3
        have e3 : (⟨r.toArray⟩ : ByteArray) = strB r := rfl
        rw [e3]
        go_wp2_with fail
        refine (shownL_calls w3 r hrl).mono ?_
        rintro en w4 ⟨rfl, hk4⟩
        have HF4 := Lib.hid (bldF_kept0 HF3.out hk4)
        have HW4 := Lib.hid (HW3.out.trans (hk4.below.mono (by have := HW3.out.size; omega)))
        have hbw4 : w.heap.size + 1 ≤ w4.heap.size := by have := HW3.out.size; have := hk4.size; omega
        clear hk4
        by_cases hsl : showL r = l
        · have ht : (showL r == l) = true := by rw [beq_iff_eq]; exact hsl
          have HSL := Lib.hid hsl
          clear hsl
          go_wp2_with fail
          refine (Any.Builder_String_any_k shLays169 bE169 (w.heap.size + 1) (w.heap.size + 1) r w4 HF4.out hbw4).mono ?_
          rintro en w5 ⟨rfl, hF5, hb5, hok5⟩
          have HW5 := Lib.hid (HW4.out.trans hb5)
          clear hF5 hb5 hok5
          go_wp2_with fail
          go_ret2
          refine ⟨?_, HK1.out.trans' (Kept.of_below (HW5.out.mono (by omega)))⟩
          rw [HMN.out, if_pos HSL.out]
          rfl
        · have ht : (showL r == l) = false := by rw [beq_eq_false_iff_ne]; exact hsl
          have HSL := Lib.hid hsl
          clear hsl
          go_wp2_with fail
          go_ret2
          refine ⟨?_, HK1.out.trans' (Kept.of_below (HW4.out.mono (by omega)))⟩
          rw [HMN.out, if_neg HSL.out]
          rfl
end Go.Proofs.YtammhfnolafknaaDoor
