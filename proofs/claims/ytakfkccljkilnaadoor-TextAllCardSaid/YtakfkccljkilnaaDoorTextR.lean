/- Texts: the reference's capitals and words: what they compute. -/
import Derived.Test.YtakfkccljkilnaaDoorTextW2
set_option linter.unusedVariables false
set_option linter.unusedSimpArgs false
namespace Go.Proofs.YtakfkccljkilnaaDoor
open Go.RowKit Go.Shelf

set_option maxHeartbeats 1000000 in
set_option maxRecDepth 100000 in
theorem refUpper_calls (w : World) (l : List UInt8) (hl : l.length ≤ 1099511627776) :
    Calls Tryd.prog 20 #[.string (strB l)] w fun en w' => en = .returned (.string (strB (upL l))) ∧ Kept w w' NoB := by
  have kc := fun (w : World) (s : ByteArray) => Lib.run_convert_string_bytes (P := Tryd.prog) w 9 45 5 s (u := .string) Tryd.underlying9 Tryd.underlying45 Tryd.underlying5
  go_enter Tryd.func20, Tryd.ntmps20
  go_wp2_with fail
  have hB := Buf.bytesW w 5 l
  have hK : Kept w (Lib.bytesWorld w 5 (strB l)) NoB := (Kept.refl _ _).bytesW _ _
  go_loopg [4] l.length (fun gk v4 wr => UpS w l gk v4 wr)
  case atStart =>
    exact ⟨0, Nat.zero_le _, rfl, rfl, by rw [upB_zero]; exact hB, hK⟩
  case round =>
    obtain ⟨i, hi, hgk, rfl, hb, hkr⟩ := hrel
    have HG := Lib.hid hgk
    have HKR := Lib.hid hkr
    have HB := Lib.hid hb
    clear hgk hkr hB hK hb
    rcases Nat.lt_or_ge i l.length with hlt | hge
    · have hup := upB_length l (Nat.le_of_lt hlt)
      have hcell := HB.out.cell i (by rw [hup]; exact hlt)
      rw [upB_at l hlt] at hcell
      have hfree := HB.out.free i (by rw [hup]; exact hlt)
      obtain ⟨x, hx⟩ : ∃ x : Nat, l[i].toNat = x := ⟨_, rfl⟩
      rw [hx] at hcell
      have hx8 : x < 256 := by rw [← hx]; exact l[i].toNat_lt
      have HX := Lib.hid hx
      have HUP := Lib.hid hup
      clear hx hup
      have hblk : w.heap.size < wr.heap.size := HB.out.lt
      by_cases h1 : 97 ≤ x ∧ x ≤ 122
      · have t1 : (97 : Int) ≤ (x : Int) := by omega
        have t2 : (x : Int) ≤ 122 := by omega
        have hin := upC_in HX.out h1.1 h1.2
        have HIN := Lib.hid hin
        clear hin
        go_wp2_with fail
        go_roundg (l.length - (i + 1))
        case measure => have := HG.out; omega
        case rel =>
          refine ⟨i + 1, hlt, rfl, by go_num, ?_, HKR.out.setCell (.inr (Nat.le_refl _)) _⟩
          rw [upB_succ l hlt]
          exact HB.out.set_ (by rw [HUP.out]; exact hlt) _ (by rw [HIN.out])
      · have hsame := upB_same l hlt (upC_out HX.out h1)
        have HS := Lib.hid hsame
        clear hsame
        rcases Nat.lt_or_ge x 97 with h2 | h2
        · have t1 : ¬ (97 : Int) ≤ (x : Int) := by omega
          go_wp2_with fail
          go_roundg (l.length - (i + 1))
          case measure => have := HG.out; omega
          case rel => exact ⟨i + 1, hlt, rfl, by go_num, by rw [HS.out]; exact HB.out, HKR.out⟩
        · have t1 : (97 : Int) ≤ (x : Int) := by omega
          have t2 : ¬ (x : Int) ≤ 122 := by omega
          go_wp2_with fail
          go_roundg (l.length - (i + 1))
          case measure => have := HG.out; omega
          case rel => exact ⟨i + 1, hlt, rfl, by go_num, by rw [HS.out]; exact HB.out, HKR.out⟩
    · obtain rfl : i = l.length := by omega
      have hrd := HB.out.reads
      rw [upB_all, upL_length] at hrd
      have hcv := fun c => hrd.string 45 5 9 Tryd.underlying45 Tryd.underlying5 Tryd.underlying9 c
      clear hrd
      go_wp2_with fail
      go_ret
      exact ⟨rfl, HKR.out⟩

/-! ### Words -/
/-- out is told of the first i bytes, from is where the last piece begins. -/
def RW (l : List UInt8) (out : List (List UInt8)) (from_ i : Nat) : Prop :=
  (i ≤ l.length ∧ from_ ≤ i ∧ out.length ≤ i ∧ wordsL l = out ++ wordsG ((l.take i).drop from_) (l.drop i)) ∨ (i = l.length + 1 ∧ out.length ≤ i ∧ wordsL l = out)
theorem RW.start (l : List UInt8) : RW l [] 0 0 := .inl ⟨Nat.zero_le _, Nat.le_refl _, Nat.le_refl _, rfl⟩
theorem RW.go {l : List UInt8} {out : List (List UInt8)} {f i : Nat} (h : RW l out f i) (hi : i < l.length) (hb : isBl l[i] = false) : RW l out f (i + 1) := by
  rcases h with ⟨h1, h2, h3, h4⟩ | ⟨h1, _⟩
  · refine .inl ⟨hi, by omega, by omega, ?_⟩
    rw [h4, List.drop_eq_getElem_cons hi, wordsG, hb, if_neg Bool.false_ne_true, List.take_succ_eq_append_getElem hi, List.drop_append_of_le_length (by rw [List.length_take]; omega)]
  · omega
theorem RW.cut {l : List UInt8} {out : List (List UInt8)} {f i : Nat} (h : RW l out f i) (hi : i < l.length) (hb : isBl l[i] = true) : RW l (out ++ flush ((l.take i).drop f)) (i + 1) (i + 1) := by
  rcases h with ⟨h1, h2, h3, h4⟩ | ⟨h1, _⟩
  · refine .inl ⟨hi, by omega, ?_, ?_⟩
    · rw [List.length_append]
      unfold flush
      split <;> simp <;> omega
    · have e : (l.take (i + 1)).drop (i + 1) = [] := List.drop_eq_nil_of_le (by rw [List.length_take]; omega)
      rw [h4, e, List.drop_eq_getElem_cons hi, wordsG, hb, if_pos rfl, List.append_assoc]
  · omega
theorem RW.fin {l : List UInt8} {out : List (List UInt8)} {f i : Nat} (h : RW l out f i) (hi : i = l.length) : RW l (out ++ flush ((l.take i).drop f)) (i + 1) (i + 1) := by
  rcases h with ⟨h1, h2, h3, h4⟩ | ⟨h1, _⟩
  · refine .inr ⟨by omega, ?_, ?_⟩
    · rw [List.length_append]
      unfold flush
      split <;> simp <;> omega
    · rw [h4, hi, List.drop_length, wordsG]
  · omega
theorem flush_in {l : List UInt8} {f i : Nat} (hi : i ≤ l.length) (h : f < i) : flush ((l.take i).drop f) = [(l.take i).drop f] := by
  unfold flush
  rw [if_neg]
  intro e
  have := congrArg List.length e
  simp at this
  omega
theorem flush_out {l : List UInt8} {f i : Nat} (h : i ≤ f) : flush ((l.take i).drop f) = [] := by
  unfold flush
  rw [if_pos]
  exact List.drop_eq_nil_of_le (by rw [List.length_take]; omega)
theorem cut_eq (l : List UInt8) {f i : Nat} (h : f ≤ i) : strB ((l.drop f).take (i - f)) = strB ((l.take i).drop f) := by
  rw [List.drop_take]

def RWS (w0 : World) (l : List UInt8) (gk : Nat) (v3 v4 v5 : Value) (wr : World) : Prop :=
  ∃ (out : List (List UInt8)) (f i : Nat), i ≤ l.length + 1 ∧ gk = l.length + 1 - i ∧ v4 = .int .i64 (f : Int) ∧ v5 = .int .i64 (i : Int) ∧ f ≤ i ∧ Row wr 9 (fun b => w0.heap.size ≤ b) v3 (strs out) ∧ RW l out f i ∧ Kept w0 wr NoB

set_option maxHeartbeats 2000000 in
set_option maxRecDepth 100000 in
theorem refWords_calls (w : World) (l : List UInt8) (hl : l.length ≤ 1099511627) :
    Calls Tryd.prog 19 #[.string (strB l)] w fun en w' => ∃ v, en = .returned v ∧ Row w' 9 (fun k => w.heap.size ≤ k) v (strs (wordsL l)) ∧ Kept w w' NoB := by
  go_enter Tryd.func19, Tryd.ntmps19
  go_wp2_with fail
  go_loopg [3, 4, 5] (l.length + 1) (fun gk v3 v4 v5 wr => RWS w l gk v3 v4 v5 wr)
  case atStart => exact ⟨[], 0, 0, Nat.zero_le _, rfl, rfl, rfl, Nat.le_refl _, Row.made0 _ _ _ (Nat.le_refl _), RW.start l, (Kept.refl _ _).alloc _⟩
  case round =>
    obtain ⟨out, f, i, hi, hgk, rfl, rfl, hfi, hrow, hw, hkr⟩ := hrel
    have HG := Lib.hid hgk
    have HKR := Lib.hid hkr
    have HRW := Lib.hid hw
    have HSZ := hkr.size
    have holen : out.length ≤ l.length + 1 := by rcases hw with ⟨_, _, h, _⟩ | ⟨_, h, _⟩ <;> omega
    clear hgk hkr hw
    have ends : ∀ v1 w1, (Row w1 9 (fun b => w.heap.size ≤ b) v1 (strs (out ++ flush ((l.take i).drop f)))) → Kept w w1 NoB → i < l.length + 1 → RW l (out ++ flush ((l.take i).drop f)) (i + 1) (i + 1) → RWS w l (l.length + 1 - (i + 1)) v1 (.int .i64 ((i : Int) + 1)) (.int .i64 ((i : Int) + 1)) w1 :=
      fun v1 w1 h1 h2 h3 h4 => ⟨_, i + 1, i + 1, h3, rfl, by go_num, by go_num, Nat.le_refl _, h1, h4, h2⟩
    have ENDS := Lib.hid ends
    clear ends
    rcases Nat.lt_or_ge i l.length with hlt | hge
    · by_cases hbl : isBl l[i] = true
      · have hcut := HRW.out.cut hlt hbl
        have HC := Lib.hid hcut
        have hor : (l[i].toNat : Int) = 32 ∨ (l[i].toNat : Int) = 9 := by
          simp only [isBl, Bool.or_eq_true, beq_iff_eq] at hbl
          rcases hbl with h | h <;> rw [h]
          · exact .inl rfl
          · exact .inr rfl
        clear hcut hbl
        obtain ⟨x, hx⟩ : ∃ x : Int, (l[i].toNat : Int) = x := ⟨_, rfl⟩
        have hx' : ((strB l)[i]'(by rw [strB_size]; exact hlt)).toNat = x.toNat := by rw [strB_getI]; omega
        rw [hx] at hor
        rcases Nat.lt_or_ge f i with hf | hf
        · have hin := flush_in (l := l) (Nat.le_of_lt hlt) hf
          rw [hin] at HC ENDS
          have hex := strB_cut l f i
          rw [cut_eq l (Nat.le_of_lt hf)] at hex
          have hle : i ≤ (strB l).size := by rw [strB_size]; omega
          rcases hor with rfl | rfl
          all_goals
            go_wp2_with (at_builtin; refine wpList_app1 (W := wr) rfl _ _ 24 9 (.string ByteArray.empty) 16 rfl Tryd.underlying24 info_str rfl (by decide) (fun k => w.heap.size ≤ k) u3 (strs out) (.string (strB ((l.take i).drop f))) rfl rfl rfl hrow (fun k hk => by omega) (by rw [strs_length]; omega) ?_; intro v4 w4 hown hkp hob)
            go_roundg (l.length + 1 - (i + 1))
            case measure => have := HG.out; omega
            case rel =>
              refine ENDS.out _ _ ?_ ?_ (by omega) HC.out
              · rw [strs_append]; exact hown
              · exact HKR.out.trans hkp fun b ho => .inr (hrow.2 b ho)
        · obtain rfl : f = i := by omega
          have hout := flush_out (l := l) (f := f) (i := f) (Nat.le_refl _)
          rw [hout, List.append_nil] at HC ENDS
          rcases hor with rfl | rfl
          all_goals
            go_wp2_with fail
            go_roundg (l.length + 1 - (f + 1))
            case measure => have := HG.out; omega
            case rel => exact ENDS.out _ _ hrow HKR.out (by omega) HC.out
      · have hbl' : isBl l[i] = false := by simpa using hbl
        have hgo := HRW.out.go hlt hbl'
        have HC := Lib.hid hgo
        have n32 : ((l[i].toNat : Int) != 32) = true := by
          rw [bne_iff_ne]
          intro e
          apply hbl
          have : l[i] = 32 := UInt8.toNat_inj.1 (by show _ = 32; omega)
          rw [this]; rfl
        have n9 : ((l[i].toNat : Int) != 9) = true := by
          rw [bne_iff_ne]
          intro e
          apply hbl
          have : l[i] = 9 := UInt8.toNat_inj.1 (by show _ = 9; omega)
          rw [this]; rfl
        clear hgo hbl hbl'
        have hx' : ((strB l)[i]'(by rw [strB_size]; exact hlt)).toNat = l[i].toNat := by rw [strB_getI]
        go_wp2_with fail
        go_roundg (l.length + 1 - (i + 1))
        case measure => have := HG.out; omega
        case rel => exact ⟨out, f, i + 1, by omega, rfl, rfl, by go_num, by omega, hrow, HC.out, HKR.out⟩
    · rcases Nat.lt_or_ge i (l.length + 1) with hlt | hge2
      · obtain rfl : i = l.length := by omega
        have hfin := HRW.out.fin rfl
        have HC := Lib.hid hfin
        clear hfin
        rcases Nat.lt_or_ge f l.length with hf | hf
        · have hin := flush_in (l := l) (Nat.le_refl _) hf
          rw [hin, List.take_length] at HC ENDS
          have hex := strB_cut l f l.length
          rw [cut_eq l (Nat.le_of_lt hf), List.take_length] at hex
          go_wp2_with (at_builtin; refine wpList_app1 (W := wr) rfl _ _ 24 9 (.string ByteArray.empty) 16 rfl Tryd.underlying24 info_str rfl (by decide) (fun k => w.heap.size ≤ k) u3 (strs out) (.string (strB (l.drop f))) rfl rfl rfl hrow (fun k hk => by omega) (by rw [strs_length]; omega) ?_; intro v4 w4 hown hkp hob)
          go_roundg (l.length + 1 - (l.length + 1))
          case measure => have := HG.out; omega
          case rel =>
            refine ENDS.out _ _ ?_ ?_ (by omega) HC.out
            · rw [strs_append]; exact hown
            · exact HKR.out.trans hkp fun b ho => .inr (hrow.2 b ho)
        · obtain rfl : f = l.length := by omega
          have hout := flush_out (l := l) (f := l.length) (i := l.length) (Nat.le_refl _)
          rw [hout, List.append_nil] at HC ENDS
          go_wp2_with fail
          go_roundg (l.length + 1 - (l.length + 1))
          case measure => have := HG.out; omega
          case rel => exact ENDS.out _ _ hrow HKR.out (by omega) HC.out
      · obtain rfl : i = l.length + 1 := by omega
        have hw : wordsL l = out := by
          rcases HRW.out with ⟨h, _⟩ | ⟨_, _, h⟩
          · omega
          · exact h
        have HW := Lib.hid hw
        clear hw
        go_wp2_with fail
        go_ret
        exact ⟨_, rfl, by rw [HW.out]; exact hrow, HKR.out⟩
end Go.Proofs.YtakfkccljkilnaaDoor
