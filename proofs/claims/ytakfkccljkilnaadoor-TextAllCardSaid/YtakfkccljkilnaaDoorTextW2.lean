/- Texts: words, of the program and of the reference: what they compute. -/
import Derived.Test.YtakfkccljkilnaaDoorTextW
import Derived.Test.YtakfkccljkilnaaDoorShC
import Derived.Shelf.Vars
set_option linter.unusedVariables false
set_option linter.unusedSimpArgs false
namespace Go.Proofs.YtakfkccljkilnaaDoor
open Go.RowKit Go.Shelf

theorem info_str : (Tryd.prog.info? 9).map (fun i => (i.zero, i.size, i.bytes)) = some (some (.string ByteArray.empty), 1, 16) := by kernel_rfl
theorem bE155 : Builder.Extra Tryd.prog shRen155 where
  sizeBuilder := by kernel_rfl
  liesBuilder := by kernel_rfl
  t5 := Tryd.underlying5
  a5 := Tryd.isAgg5
  z5 := Tryd.sizeOf5
  v5 := Tryd.zeroValue5
  infoByte := by kernel_rfl
  cellsByte := by kernel_rfl
  sizeByte := by kernel_rfl
  neB5 := by decide

/-- internal/bytealg.MaxLen holds some number. -/
def MaxI (w : World) : Prop := ∃ m, w.cell? ⟨2, 0, none⟩ = some (.int .i64 m)
theorem MaxI.kept0 {w w' : World} (h : MaxI w) (k : Kept w w' NoB) : MaxI w' := by
  obtain ⟨m, hm⟩ := h
  exact ⟨m, k.cell hm fun x => x⟩
theorem MaxI.of_shape {w : World} (h : w.ShapedOpen Tryd.prog) : MaxI w :=
  cell_of_shapedOpen_int (P := Tryd.prog) (g := 2) (t := 3) (zero := #[.int .i64 0]) h (of_decide_eq_true (by kernel_rfl)) (by kernel_rfl) rfl (by kernel_rfl) (by kernel_rfl) Tryd.underlying3

theorem repl_calls (w : World) (l : List UInt8) (hl : l.length ≤ 1099511627) (hm : MaxI w) :
    Calls Tryd.prog 25 #[.string (strB l), .string ⟨#[9]⟩, .string ⟨#[32]⟩] w fun en w' => en = .returned (.string (strB (l.map bl1))) ∧ Kept w w' NoB := by
  obtain ⟨m, hm⟩ := hm
  have hc := Lib.countB_le ⟨#[9]⟩ (by decide) (strB l).size (strB l) (Nat.le_refl _)
  rw [strB_size] at hc
  refine (Any.strings_ReplaceAll shLays155 bE155 (strB l) ⟨#[9]⟩ ⟨#[32]⟩ m w (by rw [strB_size]; omega) hm (by decide) ?_).mono fun en w' h => ⟨?_, Kept.of_below h.2⟩
  · rw [strB_size]
    show l.length + _ * 1 ≤ _
    omega
  · rw [h.1, strB_toList, ← repl_tab]
    rfl
theorem split_calls (w : World) (l sep : List UInt8) (hl : l.length ≤ 1099511627) (hs : 1 ≤ sep.length) (hm : MaxI w) {S : ByteArray} (hS : strB sep = S) :
    Calls Tryd.prog 24 #[.string (strB l), .string S] w fun en w' => en = .returned (.slice (some ⟨w.heap.size, 0, none⟩) (Lib.split l sep).length (Lib.split l sep).length) ∧ w' = w.alloc (.cells (strs (Lib.split l sep)).toArray 9) := by
  subst hS
  obtain ⟨m, hm⟩ := hm
  have hd := Lib.splitB_data (strB sep) 0 (Lib.countB (strB l) (strB sep)) (strB l)
  rw [strB_toList, strB_toList] at hd
  have hck : Lib.countB (strB l) (strB sep) = Lib.count l sep := by
    unfold Lib.countB
    rw [strB_toList, strB_toList]
  rw [hck] at hd
  have hlen := Lib.splitB_all (strB sep) (by rw [strB_size]; exact hs) 0 _ (strB l) rfl
  rw [hck] at hlen
  refine (Any.strings_Split shLays146 (by kernel_rfl) (strB l) (strB sep) m w (by rw [strB_size]; omega) hm (by rw [strB_size]; exact hs)).mono fun en w' h => ?_
  rw [hck] at h
  have e : (Lib.split l sep).length = Lib.count l sep + 1 := by
    unfold Lib.split
    rw [← hd, List.length_map, hlen]
  refine ⟨by rw [h.1, e], ?_⟩
  rw [h.2]
  congr 3
  unfold strs Lib.split
  rw [← hd, List.map_map]
  refine List.map_congr_left fun s _ => ?_
  simp [strB_data]
theorem split_len (l sep : List UInt8) : (Lib.split l sep).length ≤ l.length + 2 := by
  unfold Lib.split
  have h : ∀ (k : Nat) (s : List UInt8), (Lib.splitK sep 0 k s).length ≤ k + 1 := by
    intro k
    induction k with
    | zero => intro s; simp [Lib.splitK]
    | succ k ih =>
      intro s
      rw [Lib.splitK]
      split
      · simp
      · have := ih (s.drop ((Lib.index s sep).toNat + sep.length))
        simp only [List.length_cons]
        omega
  have h1 := h (Lib.count l sep) l
  have h2 := Lib.count_le l sep
  omega

theorem keep_snoc (ps : List (List UInt8)) (i : Nat) (h : i < ps.length) : keep (ps.take (i + 1)) = keep (ps.take i) ++ (if ps[i] = [] then [] else [ps[i]]) := by
  rw [List.take_succ_eq_append_getElem h]
  unfold keep
  rw [List.filter_append]
  by_cases e : ps[i] = []
  · simp [e]
  · simp [e]
theorem strs_at (ls : List (List UInt8)) (k : Nat) (h : k < ls.length) : (strs ls)[k]? = some (.string (strB ls[k])) := by simp [strs, List.getElem?_eq_getElem h]

def WdS (w0 : World) (g : Nat) (ps : List (List UInt8)) (gk : Nat) (v3 v10 : Value) (wr : World) : Prop :=
  ∃ i, i ≤ ps.length ∧ gk = ps.length - i ∧ v10 = .int .i64 (i : Int) ∧ Row wr 9 (fun b => g < b) v3 (strs (keep (ps.take i))) ∧ Reads wr (fun k => k = g) (some ⟨g, 0, none⟩) ps.length (strs ps) ∧ Kept w0 wr NoB ∧ w0.heap.size ≤ g

set_option maxHeartbeats 1000000 in
set_option maxRecDepth 100000 in
theorem words_calls (w : World) (l : List UInt8) (hl : l.length ≤ 1099511627) (hm : MaxI w) :
    Calls Tryd.prog 11 #[.string (strB l)] w fun en w' => ∃ v, en = .returned v ∧ Row w' 9 (fun k => w.heap.size ≤ k) v (strs (wordsL l)) ∧ Kept w w' NoB := by
  go_enter Tryd.func11, Tryd.ntmps11
  go_wp2_with fail
  refine (repl_calls _ l hl hm).mono ?_
  rintro en w1 ⟨rfl, hk1⟩
  go_wp2_with fail
  refine (split_calls w1 (l.map bl1) [32] (by rw [List.length_map]; exact hl) (by decide) (hm.kept0 hk1) rfl).mono ?_
  rintro en w2 ⟨rfl, hw2⟩
  have hlen := split_len (l.map bl1) [32]
  rw [List.length_map] at hlen
  have hkw := keep_words l
  rw [repl_tab] at hkw
  obtain ⟨ps, hps⟩ : ∃ ps, Lib.split (l.map bl1) [32] = ps := ⟨_, rfl⟩
  rw [hps] at hw2 hlen hkw ⊢
  have hR : Reads w2 (fun k => k = w1.heap.size) (some ⟨w1.heap.size, 0, none⟩) ps.length (strs ps) := by
    rw [hw2]
    have := Reads.lit w1 9 (strs ps) _ rfl (0, 0)
    rwa [strs_length] at this
  have hK2 : Kept w w2 NoB := by rw [hw2]; exact hk1.alloc _
  have HS1 := hk1.size
  have HW := Lib.hid hkw
  clear hps hw2 hkw
  go_wp2_with fail
  go_loopg [3, 5, 10] ps.length (fun gk v3 v5 v10 wr => WdS w w1.heap.size ps gk v3 v10 wr)
  case atStart => exact ⟨0, Nat.zero_le _, rfl, rfl, Row.nil _ _ _, hR, hK2, HS1⟩
  case round =>
    obtain ⟨i, hi, hgk, rfl, hrow, hrd, hkr, hg⟩ := hrel
    have HG := Lib.hid hgk
    have HKR := Lib.hid hkr
    have HRD := Lib.hid hrd
    clear hgk hkr hR hK2 hrd
    rcases Nat.lt_or_ge i ps.length with hlt | hge
    · obtain ⟨ad, u, hA, hu, hcell⟩ := HRD.out.at_ hlt
      injection hA with hA
      subst hA
      rw [strs_at ps i hlt] at hu
      injection hu with hu
      subst hu
      rw [add_lit0] at hcell
      have hsn := keep_snoc ps i hlt
      have hWs : w1.heap.size < wr.heap.size := by
        obtain ⟨ad, h1, h2, h3, _⟩ := HRD.out.2 (by omega)
        rw [h2] at h3
        exact h3
      have hkl : (keep (ps.take i)).length ≤ ps.length := by
        refine Nat.le_trans (List.length_filter_le _ _) ?_
        rw [List.length_take]
        omega
      by_cases he : ps[i] = []
      · rw [if_pos he, List.append_nil] at hsn
        rw [he] at hcell
        have HSN := Lib.hid hsn
        clear hsn he
        go_wp2_with fail
        go_roundg (ps.length - (i + 1))
        case measure => have := HG.out; omega
        case rel => exact ⟨i + 1, hlt, rfl, by go_num, by rw [HSN.out]; exact hrow, HRD.out, HKR.out, HS1⟩
      · rw [if_neg he] at hsn
        have HSN := Lib.hid hsn
        have hne : (ps[i] == ([] : List UInt8)) = false := beq_eq_false_iff_ne.2 he
        clear hsn
        go_wp2_with (at_builtin; refine wpList_app1 (W := wr) rfl _ _ 24 9 (.string ByteArray.empty) 16 rfl Tryd.underlying24 info_str rfl (by decide) (fun k => w1.heap.size < k) u3 (strs (keep (ps.take i))) (.string (strB ps[i])) rfl rfl rfl hrow (fun k hk => by omega) (by rw [strs_length]; omega) ?_; intro v4 w4 hown hkp hob)
        go_roundg (ps.length - (i + 1))
        case measure => have := HG.out; omega
        case rel =>
          refine ⟨i + 1, hlt, rfl, by go_num, ?_, HRD.out.kept hkp fun b _ hb ho => ?_, ?_, HS1⟩
          · rw [HSN.out, strs_append]
            exact hown
          · have := hrow.2 b ho
            omega
          · exact HKR.out.trans hkp fun b ho => .inr (by have := hrow.2 b ho; omega)
    · obtain rfl : i = ps.length := by omega
      rw [List.take_length, HW.out] at hrow
      go_wp2_with fail
      go_ret
      exact ⟨_, rfl, hrow.mono fun k _ hk => by omega, HKR.out⟩
end Go.Proofs.YtakfkccljkilnaaDoor
