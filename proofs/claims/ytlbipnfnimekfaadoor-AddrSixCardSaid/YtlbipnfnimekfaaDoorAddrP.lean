/- Addresses: plain laws; SplitN and TrimLeft. -/
import Derived.Test.YtlbipnfnimekfaaDoorW
import Derived.Test.YtlbipnfnimekfaaDoorShY
import Derived.Test.YtlbipnfnimekfaaDoorShX
import Derived.Test.YtlbipnfnimekfaaDoorNum
import Derived.Lib.IndexBytes
import Derived.Lib.IndexAny
import Derived.Lib.SplitLaws
set_option linter.unusedVariables false
set_option linter.unusedSimpArgs false
namespace Go.Proofs.YtlbipnfnimekfaaDoor
open Go.RowKit Go.Shelf

/-! ### Pieces between commas -/
def notC (c : UInt8) : Bool := c != 44
def piecesK : Nat → List UInt8 → List (List UInt8)
  | 0, s => [s]
  | k + 1, s => match s.dropWhile notC with
    | [] => [s]
    | _ :: r => s.takeWhile notC :: piecesK k r
theorem takeWhile_all {l : List UInt8} {p : UInt8 → Bool} (h : l.dropWhile p = []) : l.takeWhile p = l := by
  have := List.takeWhile_append_dropWhile (p := p) (l := l)
  rw [h, List.append_nil] at this
  exact this
theorem ixb_split (s : List UInt8) : (s.dropWhile notC = [] ∧ Lib.indexByte s 44 = -1) ∨ ∃ r, s.dropWhile notC = 44 :: r ∧ Lib.indexByte s 44 = ((s.takeWhile notC).length : Int) := by
  induction s with
  | nil => exact .inl ⟨rfl, rfl⟩
  | cons b l ih =>
    by_cases hb : b = 44
    · subst hb
      exact .inr ⟨l, rfl, rfl⟩
    · have hn : notC b = true := by simp [notC, hb]
      have hn' : (b == 44) = false := by simpa using hb
      rw [List.dropWhile_cons_of_pos hn, List.takeWhile_cons_of_pos hn, Lib.indexByte, hn']
      rcases ih with ⟨h1, h2⟩ | ⟨r, h1, h2⟩
      · exact .inl ⟨h1, by rw [h2]; rfl⟩
      · refine .inr ⟨r, h1, ?_⟩
        rw [h2, if_neg (by simp), if_neg (by simp)]
        simp
theorem splitK_pieces : ∀ (k : Nat) (s : List UInt8), Lib.splitK [44] 0 k s = piecesK k s
  | 0, s => rfl
  | k + 1, s => by
    rw [Lib.splitK, piecesK, Lib.index_one]
    rcases ixb_split s with ⟨h1, h2⟩ | ⟨r, h1, h2⟩
    · rw [h2, h1]
      rfl
    · have hsp := List.takeWhile_append_dropWhile (p := notC) (l := s)
      have hneg : ¬ ((((s.takeWhile notC).length : Int)) == -1) = true := by simp
      rw [h2, if_neg hneg, h1]
      simp only [Int.toNat_natCast, Nat.add_zero]
      have e1 : s.take (s.takeWhile notC).length = s.takeWhile notC := by
        have : s = s.takeWhile notC ++ 44 :: r := by rw [← h1]; exact hsp.symm
        conv => lhs; arg 2; rw [this]
        simp
      have e2 : s.drop ((s.takeWhile notC).length + ([44] : List UInt8).length) = r := by
        have : s = s.takeWhile notC ++ 44 :: r := by rw [← h1]; exact hsp.symm
        conv => lhs; arg 2; rw [this]
        rw [← List.drop_drop]
        simp
      rw [e1, e2, splitK_pieces k r]
/-! ### Six numbers -/
/-- A number of at most three digits, of a byte. -/
def numW (w : List UInt8) : Option Int := if w.length ≤ 3 then numA w 255 else none
theorem numA_digits {l : List UInt8} {m v : Int} (h : numA l m = some v) : l.all digC = true ∧ l ≠ [] := by
  unfold numA at h
  cases hd : l.all digC with
  | false => rw [hd] at h; cases h
  | true =>
    refine ⟨rfl, ?_⟩
    rintro rfl
    have e : Lib.atoiAll [] = .syntax := by rfl
    simp [e] at h
theorem numW_digits {l : List UInt8} {v : Int} (h : numW l = some v) : l.all digC = true ∧ l ≠ [] := by
  unfold numW at h
  split at h
  · exact numA_digits h
  · cases h
theorem digC_notC {c : UInt8} (h : digC c = true) : notC c = true := by
  simp only [digC, decide_eq_true_eq] at h
  simp only [notC, bne_iff_ne, ne_eq]
  rintro rfl
  simp at h
/-- What the document's reader makes: k numbers with a comma behind each, then one. -/
def refK : Nat → List UInt8 → Option (List Int)
  | 0, s => (numW (s.takeWhile digC)).map fun n => [n]
  | k + 1, s => match s.dropWhile digC with
    | 44 :: r => (numW (s.takeWhile digC)).bind fun n => (refK k r).map fun l => n :: l
    | _ => none
/-- The same by pieces. -/
def procK : Nat → List UInt8 → Option (List Int)
  | 0, s => (numW (s.takeWhile digC)).map fun n => [n]
  | k + 1, s => match s.dropWhile notC with
    | [] => none
    | _ :: r => (numW (s.takeWhile notC)).bind fun n => (procK k r).map fun l => n :: l
theorem span_same : ∀ (s : List UInt8), (∃ r, s.dropWhile digC = 44 :: r) → s.takeWhile notC = s.takeWhile digC ∧ s.dropWhile notC = s.dropWhile digC
  | [], h => by obtain ⟨r, h⟩ := h; cases h
  | c :: s, h => by
    by_cases hd : digC c = true
    · have hn := digC_notC hd
      rw [List.dropWhile_cons_of_pos hd] at h ⊢
      rw [List.takeWhile_cons_of_pos hd, List.takeWhile_cons_of_pos hn, List.dropWhile_cons_of_pos hn]
      have ih := span_same s h
      exact ⟨by rw [ih.1], ih.2⟩
    · obtain ⟨r, h⟩ := h
      rw [List.dropWhile_cons_of_neg hd] at h
      obtain ⟨rfl, rfl⟩ := List.cons.inj h
      exact ⟨rfl, rfl⟩
theorem span_digits : ∀ (s : List UInt8), (s.takeWhile notC).all digC = true → s.takeWhile notC = s.takeWhile digC ∧ s.dropWhile notC = s.dropWhile digC
  | [], _ => ⟨rfl, rfl⟩
  | c :: s, h => by
    by_cases hc : c = 44
    · subst hc; exact ⟨rfl, rfl⟩
    · have hn : notC c = true := by simp [notC, hc]
      rw [List.takeWhile_cons_of_pos hn, List.all_cons, Bool.and_eq_true] at h
      have ih := span_digits s h.2
      rw [List.takeWhile_cons_of_pos hn, List.takeWhile_cons_of_pos h.1, List.dropWhile_cons_of_pos hn, List.dropWhile_cons_of_pos h.1]
      exact ⟨by rw [ih.1], ih.2⟩
theorem drop_notC (s : List UInt8) : s.dropWhile notC = [] ∨ ∃ r, s.dropWhile notC = 44 :: r := by
  rcases ixb_split s with h | ⟨r, h, _⟩
  · exact .inl h.1
  · exact .inr ⟨r, h⟩
theorem proc_ref : ∀ (k : Nat) (s : List UInt8), procK k s = refK k s
  | 0, s => rfl
  | k + 1, s => by
    have ih := proc_ref k
    by_cases h : ∃ r, s.dropWhile digC = 44 :: r
    · obtain ⟨e1, e2⟩ := span_same s h
      obtain ⟨r, h⟩ := h
      rw [procK, refK, e1, e2, h]
      simp only [ih]
    · have hr : refK (k + 1) s = none := by
        rw [refK]
        split
        · next r hr => exact absurd ⟨r, hr⟩ h
        · rfl
      rw [hr, procK]
      rcases drop_notC s with h0 | ⟨r, h0⟩
      · rw [h0]
      · rw [h0]
        simp only
        cases hn : numW (s.takeWhile notC) with
        | none => rfl
        | some n =>
          have := span_digits s (numW_digits hn).1
          exact absurd ⟨r, by rw [← this.2]; exact h0⟩ h
/-- What the program's loop takes as numbers, piece by piece. -/
def wsK : Nat → List UInt8 → List (List UInt8)
  | 0, s => [s.takeWhile digC]
  | k + 1, s => match s.dropWhile notC with
    | [] => [s]
    | _ :: r => s.takeWhile notC :: wsK k r
theorem piecesK_le : ∀ (k : Nat) (s : List UInt8), (piecesK k s).length ≤ k + 1
  | 0, s => by simp [piecesK]
  | k + 1, s => by
    rw [piecesK]
    split
    · simp
    · have := piecesK_le k ‹_›
      simp only [List.length_cons]
      omega
theorem piecesK_pos : ∀ (k : Nat) (s : List UInt8), 1 ≤ (piecesK k s).length
  | 0, s => by simp [piecesK]
  | k + 1, s => by
    rw [piecesK]
    split <;> simp
theorem wsK_length : ∀ (k : Nat) (s : List UInt8), (wsK k s).length = (piecesK k s).length
  | 0, s => rfl
  | k + 1, s => by
    rw [wsK, piecesK]
    cases s.dropWhile notC with
    | nil => rfl
    | cons c r => simp [wsK_length k r]
theorem wsK_at : ∀ (k : Nat) (s : List UInt8) (i : Nat), (wsK k s)[i]? = ((piecesK k s)[i]?).map fun w => if i = k then w.takeWhile digC else w
  | 0, s, i => by
    cases i with
    | zero => rfl
    | succ i => rfl
  | k + 1, s, i => by
    rw [wsK, piecesK]
    cases hd : s.dropWhile notC with
    | nil =>
      cases i with
      | zero => rfl
      | succ i => rfl
    | cons c r =>
      cases i with
      | zero => rfl
      | succ i =>
        simp only [List.getElem?_cons_succ]
        rw [wsK_at k r i]
        simp only [Nat.add_right_cancel_iff]
def allNum : List (List UInt8) → Option (List Int)
  | [] => some []
  | w :: ws => (numW w).bind fun n => (allNum ws).map fun l => n :: l
theorem allNum_length : ∀ {ws : List (List UInt8)} {l : List Int}, allNum ws = some l → l.length = ws.length
  | [], l, h => by cases h; rfl
  | w :: ws, l, h => by
    rw [allNum] at h
    cases hn : numW w with
    | none => rw [hn] at h; cases h
    | some n =>
      rw [hn] at h
      simp only [Option.bind_some, Option.map_eq_some_iff] at h
      obtain ⟨l', h', rfl⟩ := h
      simp [allNum_length h']
theorem allNum_snoc (ws : List (List UInt8)) (w : List UInt8) : allNum (ws ++ [w]) = (allNum ws).bind fun l => (numW w).map fun n => l ++ [n] := by
  induction ws with
  | nil =>
    simp only [List.nil_append, allNum, Option.bind_some]
    cases numW w <;> rfl
  | cons x ws ih =>
    simp only [List.cons_append, allNum, ih]
    cases numW x <;> simp
    cases allNum ws <;> simp
    cases numW w <;> simp
theorem allNum_take {ws : List (List UInt8)} (i : Nat) (h : allNum (ws.take i) = none) : allNum ws = none := by
  induction ws generalizing i with
  | nil => simp at h; cases h
  | cons w ws ih =>
    cases i with
    | zero => simp [allNum] at h
    | succ i =>
      rw [List.take_succ_cons, allNum] at h
      rw [allNum]
      cases hn : numW w with
      | none => rfl
      | some n =>
        rw [hn] at h
        simp only [Option.bind_some, Option.map_eq_none_iff] at h ⊢
        exact ih i h
theorem ws_proc : ∀ (k : Nat) (s : List UInt8), ((allNum (wsK k s)).bind fun l => if l.length = k + 1 then some l else none) = procK k s
  | 0, s => by
    simp only [wsK, allNum, procK]
    cases numW (s.takeWhile digC) <;> rfl
  | k + 1, s => by
    have ih := ws_proc k
    rw [wsK, procK]
    cases hd : s.dropWhile notC with
    | nil =>
      simp only [allNum]
      cases numW s <;> simp
    | cons c r =>
      simp only [allNum]
      rw [← ih r]
      cases numW (s.takeWhile notC) <;> simp
      cases allNum (wsK k r) <;> simp
/-- From the first digit on (all of it, if there is none). -/
def startD (s : List UInt8) : List UInt8 := s.drop (max (Lib.indexAny s [48, 49, 50, 51, 52, 53, 54, 55, 56, 57]) 0).toNat
theorem digs_contains (c : UInt8) : ([48, 49, 50, 51, 52, 53, 54, 55, 56, 57] : List UInt8).contains c = digC c := by
  have h : ∀ n < 256, ([48, 49, 50, 51, 52, 53, 54, 55, 56, 57] : List UInt8).contains (UInt8.ofNat n) = digC (UInt8.ofNat n) := by decide +kernel
  have := h c.toNat c.toNat_lt
  rwa [UInt8.ofNat_toNat] at this
theorem ixAny_digs : ∀ (s : List UInt8), (s.any digC = false ∧ Lib.indexAny s [48, 49, 50, 51, 52, 53, 54, 55, 56, 57] = -1) ∨
    (s.any digC = true ∧ Lib.indexAny s [48, 49, 50, 51, 52, 53, 54, 55, 56, 57] = ((s.takeWhile fun c => !digC c).length : Int))
  | [] => .inl ⟨rfl, rfl⟩
  | c :: s => by
    rw [Lib.indexAny, digs_contains]
    cases hc : digC c with
    | true =>
      refine .inr ⟨by simp [hc], ?_⟩
      rw [List.takeWhile_cons_of_neg (by simp [hc])]
      rfl
    | false =>
      rw [List.takeWhile_cons_of_pos (by simp [hc])]
      rcases ixAny_digs s with ⟨h1, h2⟩ | ⟨h1, h2⟩
      · exact .inl ⟨by simp [hc, h1], by rw [h2]; rfl⟩
      · refine .inr ⟨by simp [hc, h1], ?_⟩
        rw [h2, if_neg (by simp), if_neg (by simp)]
        simp
theorem drop_takeWhile (p : UInt8 → Bool) : ∀ s : List UInt8, s.drop (s.takeWhile p).length = s.dropWhile p
  | [] => rfl
  | c :: s => by
    cases hc : p c with
    | true => rw [List.takeWhile_cons_of_pos hc, List.dropWhile_cons_of_pos hc, List.length_cons, List.drop_succ_cons]; exact drop_takeWhile p s
    | false => rw [List.takeWhile_cons_of_neg (by simp [hc]), List.dropWhile_cons_of_neg (by simp [hc])]; rfl
theorem dropWhile_none (p : UInt8 → Bool) : ∀ s : List UInt8, (∀ c ∈ s, p c = true) → s.dropWhile p = []
  | [], _ => rfl
  | c :: s, h => by
    rw [List.dropWhile_cons_of_pos (h c (by simp))]
    exact dropWhile_none p s fun x hx => h x (by simp [hx])
theorem mem_takeWhile (p : UInt8 → Bool) {s : List UInt8} {x : UInt8} (h : x ∈ s.takeWhile p) : x ∈ s := (List.takeWhile_prefix p).subset h
theorem startD_some {s : List UInt8} (h : s.any digC = true) : startD s = s.dropWhile fun c => !digC c := by
  unfold startD
  rcases ixAny_digs s with ⟨h1, h2⟩ | ⟨h1, h2⟩
  · rw [h] at h1; cases h1
  · rw [h2, show (max (((s.takeWhile fun c => !digC c).length : Nat) : Int) 0).toNat = (s.takeWhile fun c => !digC c).length by omega]
    exact drop_takeWhile _ s
theorem startD_none {s : List UInt8} (h : s.any digC = false) : startD s = s := by
  unfold startD
  rcases ixAny_digs s with ⟨h1, h2⟩ | ⟨h1, h2⟩
  · rw [h2]; rfl
  · rw [h] at h1; cases h1
theorem numW_none {w : List UInt8} (h : w.any digC = false) : numW w = none := by
  cases hn : numW w with
  | none => rfl
  | some v =>
    obtain ⟨h1, h2⟩ := numW_digits hn
    cases w with
    | nil => exact absurd rfl h2
    | cons c w =>
      simp only [List.all_cons, Bool.and_eq_true] at h1
      simp [h1.1] at h
theorem six_same (s : List UInt8) : procK 5 (startD s) = refK 5 (s.dropWhile fun c => !digC c) := by
  cases h : s.any digC with
  | true => rw [startD_some h, proc_ref]
  | false =>
    rw [startD_none h]
    have e : (s.dropWhile fun c => !digC c) = [] := by
      refine dropWhile_none _ _ fun c hc => ?_
      have := List.any_eq_false.1 h c hc
      simpa using this
    rw [e]
    have hr : refK 5 [] = none := by rfl
    rw [hr, procK]
    cases hd : s.dropWhile notC with
    | nil => rfl
    | cons c r =>
      have hn : numW (s.takeWhile notC) = none := numW_none (List.any_eq_false.2 fun x hx => List.any_eq_false.1 h x (mem_takeWhile _ hx))
      simp [hn]
end Go.Proofs.YtlbipnfnimekfaaDoor
