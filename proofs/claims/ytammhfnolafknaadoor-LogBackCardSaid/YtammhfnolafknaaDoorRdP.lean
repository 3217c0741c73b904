/- Transcripts: what Read says of what Text has written (plain laws). -/
import Derived.Test.YtammhfnolafknaaDoorLogM
import Derived.Test.YtammhfnolafknaaDoorLogE
import Derived.Test.YtammhfnolafknaaDoorCutP
import Derived.Test.YtammhfnolafknaaDoorValL
set_option linter.unusedVariables false
set_option linter.unusedSimpArgs false
namespace Go.Proofs.YtammhfnolafknaaDoor
open Go.RowKit Go.Lib

/-! ### Pieces between blanks -/
theorem ib_found {x : UInt8} : ∀ {a : List UInt8} (r : List UInt8), x ∉ a → indexByte (a ++ x :: r) x = (a.length : Int)
  | [], r, _ => by simp [indexByte]
  | c :: a, r, h => by
    have hc : (c == x) = false := by rw [beq_eq_false_iff_ne]; rintro rfl; exact h (by simp)
    have ih := ib_found r (fun hh => h (List.mem_cons_of_mem _ hh))
    rw [List.cons_append, indexByte, hc, ih, if_neg (by simp), if_neg (by simp)]
    simp
theorem ib_none {x : UInt8} : ∀ {s : List UInt8}, x ∉ s → indexByte s x = -1
  | [], _ => rfl
  | c :: s, h => by
    have hc : (c == x) = false := by rw [beq_eq_false_iff_ne]; rintro rfl; exact h (by simp)
    rw [indexByte, hc, ib_none (fun hh => h (List.mem_cons_of_mem _ hh))]
    rfl
theorem splitK_cut (x : UInt8) (k : Nat) (s : List UInt8) : splitK [x] 0 (k + 1) s = if (cutX x s).2.2 = true then (cutX x s).1 :: splitK [x] 0 k (cutX x s).2.1 else [s] := by
  rw [splitK, index_one]
  rcases cutX_cases x s with ⟨a, r, h1, h2, h3⟩ | ⟨h1, h2⟩
  · rw [h3, h1, ib_found r h2, if_neg (by simp)]
    simp
  · rw [h2, ib_none h1]
    simp
def pcs (s : List UInt8) : List (List UInt8) := splitK [32] 0 2 s
theorem splitK_not (x : UInt8) (k : Nat) {s : List UInt8} (h : x ∉ s) : splitK [x] 0 k s = [s] := by
  cases k with
  | zero => rfl
  | succ k => rw [splitK_cut, cutX_not x h]; simp
theorem splitN_three (s : List UInt8) : splitK [32] 0 (min 3 (s.length + 1) - 1) s = pcs s := by
  unfold pcs
  rcases Nat.lt_or_ge s.length 2 with h | h
  · match s, h with
    | [], _ => rw [splitK_not 32 2 (by simp)]; rfl
    | [c], _ =>
      rw [show min 3 ([c].length + 1) - 1 = 0 + 1 from rfl, splitK_cut, splitK_cut]
      by_cases hc : c = 32
      · subst hc
        simp [cutX, splitK, index]
      · simp [cutX, hc]
  · rw [show min 3 (s.length + 1) - 1 = 2 by omega]
theorem pcs_three {a b : List UInt8} (c : List UInt8) (ha : 32 ∉ a) (hb : 32 ∉ b) : pcs (a ++ 32 :: (b ++ 32 :: c)) = [a, b, c] := by
  unfold pcs
  rw [splitK_cut, cutX_of 32 ha]
  simp only [if_true]
  rw [splitK_cut, cutX_of 32 hb]
  simp only [if_true]
  rfl
theorem pcs_short {s p : List UInt8} (h : p ∈ pcs s) : p.length ≤ s.length := splitK_piece _ _ _ p h
theorem pcs_len (s : List UInt8) : (pcs s).length ≤ 3 := by
  unfold pcs
  rw [splitK_cut]
  split
  · rw [splitK_cut]
    split
    · simp [splitK]
    · simp
  · simp

/-! ### Digits -/
theorem vd_dig {d : Nat} (h : d < 10) : (UInt8.ofNat (48 + d)).toNat = 48 + d := by
  simp
  omega
theorem vd_val : ∀ (n u : Nat), u ≤ n → valF 0 (decDigits u) = u ∧ (decDigits u).all digC = true := by
  intro n
  induction n with
  | zero =>
    intro u hu
    obtain rfl : u = 0 := by omega
    rw [decDigits_one (by omega)]
    exact ⟨rfl, rfl⟩
  | succ n ih =>
    intro u hu
    by_cases h : u < 10
    · rw [decDigits_one h]
      have hd := vd_dig h
      refine ⟨?_, ?_⟩
      · show 0 * 10 + ((UInt8.ofNat (48 + u)).toNat - 48) = u
        rw [hd]; omega
      · simp only [List.all_cons, List.all_nil, Bool.and_true, digC, hd, decide_eq_true_eq]
        omega
    · have ⟨h1, h2⟩ := ih (u / 10) (by omega)
      have hd := vd_dig (d := u % 10) (by omega)
      rw [decDigits, dif_neg h, valF_snoc, h1, List.all_append, h2, hd]
      refine ⟨by omega, ?_⟩
      simp only [List.all_cons, List.all_nil, Bool.and_true, Bool.true_and, digC, hd, decide_eq_true_eq]
      omega
theorem vd_len : ∀ (k u : Nat), u < 10 ^ (k + 1) → (decDigits u).length ≤ k + 1 := by
  intro k
  induction k with
  | zero => intro u hu; rw [decDigits_one (by omega)]; exact Nat.le_refl _
  | succ k ih =>
    intro u hu
    by_cases h : u < 10
    · rw [decDigits_one h]; simp
    · have h3 : u / 10 < 10 ^ (k + 1) := by rw [Nat.pow_succ] at hu; omega
      have := ih (u / 10) h3
      rw [decDigits, dif_neg h, List.length_append]
      simp
      omega
theorem vd_ne (u : Nat) : decDigits u ≠ [] := by
  rw [decDigits]
  split <;> simp
theorem numD_itoa (n : Int) : numD (itoa n) 999999999 = if 0 ≤ n ∧ n ≤ 999999999 then some n else none := by
  by_cases h0 : n < 0
  · have e : itoa n = 45 :: decDigits n.natAbs := by unfold itoa; rw [if_pos h0]
    rw [e, numD, if_neg (by rintro ⟨_, _, h, _⟩; rw [List.all_cons] at h; simp [digC] at h), if_neg (by omega)]
  · obtain ⟨u, rfl⟩ := Int.eq_ofNat_of_zero_le (show 0 ≤ n by omega)
    have e : itoa (u : Int) = decDigits u := by unfold itoa; rw [if_neg h0]; rfl
    obtain ⟨h1, h2⟩ := vd_val u u (Nat.le_refl _)
    rw [e, numD, h1]
    by_cases hu : u ≤ 999999999
    · rw [if_pos ⟨vd_ne u, vd_len 8 u (by omega), h2, by omega⟩, if_pos (by omega)]
    · rw [if_neg (by rintro ⟨_, _, _, h⟩; omega), if_neg (by omega)]
theorem itoa_no32 (n : Int) : 32 ∉ itoa n := by
  have hd : ∀ u, 32 ∉ decDigits u := fun u h => by
    have h2 := (vd_val u u (Nat.le_refl _)).2
    rw [List.all_eq_true] at h2
    have := h2 _ h
    simp [digC] at this
  unfold itoa
  split
  · intro h
    rcases List.mem_cons.1 h with h | h
    · cases h
    · exact hd _ h
  · exact hd _
theorem itoa_no10 (n : Int) : 10 ∉ itoa n := by
  have hd : ∀ u, 10 ∉ decDigits u := fun u h => by
    have h2 := (vd_val u u (Nat.le_refl _)).2
    rw [List.all_eq_true] at h2
    have := h2 _ h
    simp [digC] at this
  unfold itoa
  split
  · intro h
    rcases List.mem_cons.1 h with h | h
    · cases h
    · exact hd _ h
  · exact hd _

/-! ### What is shown means what it was -/
theorem hexC_fine : ∀ k < 16, (hexC k).toNat ≠ 92 ∧ hexD (hexC k) = some k ∧ 32 ≤ (hexC k).toNat ∧ (hexC k).toNat ≤ 126 := by decide +kernel
theorem unL_hex2 (c : UInt8) : unL (hex2 c) = some c := by
  have h8 := c.toNat_lt
  unfold hex2 unL
  simp only
  rw [(hexC_fine (c.toNat / 16) (by omega)).2.1, (hexC_fine (c.toNat % 16) (by omega)).2.1]
  simp only
  congr 1
  rw [show c.toNat / 16 * 16 + c.toNat % 16 = c.toNat by omega]
  simp
/-- What is shown, as its pieces. -/
def showP : List UInt8 → List UInt8 × List (List UInt8)
  | [] => ([], [])
  | c :: l => if oddC c = true then ([], (hex2 c ++ (showP l).1) :: (showP l).2) else (c :: (showP l).1, (showP l).2)
def gluP (ps : List (List UInt8)) : List UInt8 := ps.flatMap fun p => 92 :: 120 :: p
theorem showP_glue : ∀ l, showL l = (showP l).1 ++ gluP (showP l).2
  | [] => rfl
  | c :: l => by
    have e : showL (c :: l) = showC c ++ showL l := by unfold showL; rw [List.flatMap_cons]
    rw [e, showP_glue l, showP, showC]
    by_cases h : oddC c = true
    · rw [if_pos h, if_pos h]
      simp [gluP]
    · rw [if_neg h, if_neg h]
      simp
theorem oddC_92 {c : UInt8} (h : ¬ oddC c = true) : c ≠ 92 := by
  rintro rfl
  exact h (by decide)
theorem showP_no : ∀ l, 92 ∉ (showP l).1 ∧ ∀ p ∈ (showP l).2, 92 ∉ p
  | [] => by simp [showP]
  | c :: l => by
    obtain ⟨h1, h2⟩ := showP_no l
    have h8 := c.toNat_lt
    rw [showP]
    by_cases h : oddC c = true
    · rw [if_pos h]
      refine ⟨by simp, fun p hp => ?_⟩
      rcases List.mem_cons.1 hp with rfl | hp
      · intro hm
        rcases List.mem_append.1 hm with hm | hm
        · simp only [hex2, List.mem_cons, List.not_mem_nil, or_false] at hm
          rcases hm with hm | hm
          · exact (hexC_fine (c.toNat / 16) (by omega)).1 (by rw [← hm]; rfl)
          · exact (hexC_fine (c.toNat % 16) (by omega)).1 (by rw [← hm]; rfl)
        · exact h1 hm
      · exact h2 p hp
    · rw [if_neg h]
      refine ⟨fun hm => ?_, h2⟩
      rcases List.mem_cons.1 hm with hm | hm
      · exact oddC_92 h hm.symm
      · exact h1 hm
theorem showP_join : ∀ l, ∃ x, joinP (showP l).2 = some x ∧ (showP l).1 ++ x = l
  | [] => ⟨[], rfl, rfl⟩
  | c :: l => by
    obtain ⟨x, h1, h2⟩ := showP_join l
    rw [showP]
    by_cases h : oddC c = true
    · rw [if_pos h]
      have hp : pieceL (hex2 c ++ (showP l).1) = some (c :: (showP l).1) := by
        unfold pieceL
        rw [show (hex2 c ++ (showP l).1).take 2 = hex2 c from rfl, show (hex2 c ++ (showP l).1).drop 2 = (showP l).1 from rfl, unL_hex2]
        rfl
      refine ⟨c :: ((showP l).1 ++ x), ?_, by rw [h2]; rfl⟩
      simp [joinP, hp, h1]
    · rw [if_neg h]
      exact ⟨x, h1, by rw [List.cons_append, h2]⟩
theorem ix2_found : ∀ {a : List UInt8} (r : List UInt8), 92 ∉ a → index (a ++ 92 :: 120 :: r) [92, 120] = (a.length : Int)
  | [], r, _ => cx_pre (by simp) (by simp [List.isPrefixOf])
  | c :: a, r, h => by
    have hc : c ≠ 92 := by rintro rfl; exact h (by simp)
    rw [List.cons_append, cx_cons (by simp [List.isPrefixOf]; intro e; exact absurd e.symm hc), ix2_found r (fun hh => h (List.mem_cons_of_mem _ hh)), if_neg (by simp)]
    simp
theorem ix2_none : ∀ {s : List UInt8}, 92 ∉ s → index s [92, 120] = -1
  | [], _ => rfl
  | c :: s, h => by
    have hc : c ≠ 92 := by rintro rfl; exact h (by simp)
    rw [cx_cons (by simp [List.isPrefixOf]; intro e; exact absurd e.symm hc), ix2_none (fun hh => h (List.mem_cons_of_mem _ hh))]
    rfl
theorem split2_k : ∀ (ps : List (List UInt8)) (k : Nat) (a : List UInt8), ps.length ≤ k → 92 ∉ a → (∀ p ∈ ps, 92 ∉ p) → splitK [92, 120] 0 k (a ++ gluP ps) = a :: ps
  | [], k, a, _, ha, _ => by
    rw [show gluP [] = [] from rfl, List.append_nil]
    cases k with
    | zero => rfl
    | succ k => rw [splitK, ix2_none ha]; rfl
  | p :: ps, k, a, hk, ha, hp => by
    obtain ⟨k, rfl⟩ : ∃ k', k = k' + 1 := ⟨k - 1, by simp at hk; omega⟩
    have e : gluP (p :: ps) = 92 :: 120 :: (p ++ gluP ps) := by simp [gluP]
    rw [e, splitK, ix2_found _ ha, if_neg (by simp)]
    have e1 : (a ++ 92 :: 120 :: (p ++ gluP ps)).take (((a.length : Int)).toNat + 0) = a := by simp
    have e2 : (a ++ 92 :: 120 :: (p ++ gluP ps)).drop (((a.length : Int)).toNat + ([92, 120] : List UInt8).length) = p ++ gluP ps := by
      rw [Int.toNat_natCast, ← List.drop_drop, List.drop_left]
      rfl
    rw [e1, e2, split2_k ps k p (by simp at hk; omega) (hp p (by simp)) fun q hq => hp q (by simp [hq])]
theorem countF_glue : ∀ (ps : List (List UInt8)) (k : Nat) (a : List UInt8), ps.length ≤ k → 92 ∉ a → (∀ p ∈ ps, 92 ∉ p) → ps.length ≤ countFrom [92, 120] k (a ++ gluP ps)
  | [], k, a, _, ha, _ => Nat.zero_le _
  | p :: ps, k, a, hk, ha, hp => by
    obtain ⟨k, rfl⟩ : ∃ k', k = k' + 1 := ⟨k - 1, by simp at hk; omega⟩
    have e : gluP (p :: ps) = 92 :: 120 :: (p ++ gluP ps) := by simp [gluP]
    have e2 : (a ++ 92 :: 120 :: (p ++ gluP ps)).drop (((a.length : Int)).toNat + ([92, 120] : List UInt8).length) = p ++ gluP ps := by
      rw [Int.toNat_natCast, ← List.drop_drop, List.drop_left]
      rfl
    rw [e, countFrom, ix2_found _ ha, if_neg (by simp), e2]
    have := countF_glue ps k p (by simp at hk; omega) (hp p (by simp)) fun q hq => hp q (by simp [hq])
    simp only [List.length_cons]
    omega
theorem gluP_len : ∀ ps : List (List UInt8), ps.length ≤ (gluP ps).length
  | [] => Nat.zero_le _
  | p :: ps => by
    have := gluP_len ps
    simp [gluP] at this ⊢
    omega
theorem split_show (l : List UInt8) : split (showL l) [92, 120] = (showP l).1 :: (showP l).2 := by
  have hg := gluP_len (showP l).2
  obtain ⟨h1, h2⟩ := showP_no l
  unfold split
  have hc : (showP l).2.length ≤ count (showL l) [92, 120] := by
    unfold count
    rw [showP_glue]
    exact countF_glue _ _ _ (by rw [List.length_append]; omega) h1 h2
  rw [showP_glue] at hc ⊢
  exact split2_k _ _ _ hc h1 h2
theorem meantL_show (l : List UInt8) : meantL (showL l) = some l := by
  obtain ⟨x, h1, h2⟩ := showP_join l
  unfold meantL
  rw [split_show, List.tail_cons, h1]
  simp only [List.headD_cons, Option.bind_some, h2, if_true]
/-! ### Lines -/
def kindOf (b : List UInt8) : Int := index [63, 62, 60, 61, 33] b
def readOne (s : List UInt8) : Option (Ent × List UInt8) :=
  match pcs (cutX 10 s).1 with
  | [a, b, c] => if b.length = 1 then
      match numD a 999999999, meantL c with
      | some n, some t => if 1 ≤ kindOf b ∧ textL [(n, kindOf b, t)] = s.take (s.length - (cutX 10 s).2.1.length) then some ((n, kindOf b, t), (cutX 10 s).2.1) else none
      | _, _ => none
    else none
  | _ => none
def readL : Nat → List UInt8 → Option (List Ent)
  | 0, s => if s = [] then some [] else none
  | k + 1, s => if s = [] then some [] else (readOne s).bind fun x => (readL k x.2).map (x.1 :: ·)
def fineE (e : Ent) : Bool := decide (1 ≤ e.2.1 ∧ e.2.1 ≤ 4 ∧ 0 ≤ e.1 ∧ e.1 ≤ 999999999)
theorem showC_no10 (c : UInt8) : 10 ∉ showC c := by
  have h8 := c.toNat_lt
  unfold showC
  intro h
  split at h
  · simp only [hex2, List.mem_cons, List.not_mem_nil, or_false] at h
    rcases h with h | h | h | h
    · cases h
    · cases h
    · have := (hexC_fine (c.toNat / 16) (by omega)).2.2.1
      rw [← h] at this
      exact absurd this (by decide)
    · have := (hexC_fine (c.toNat % 16) (by omega)).2.2.1
      rw [← h] at this
      exact absurd this (by decide)
  · rename_i ho
    rw [List.mem_singleton] at h
    subst h
    exact ho (by decide)
theorem showL_no10 (l : List UInt8) : 10 ∉ showL l := by
  unfold showL
  intro h
  obtain ⟨c, _, hc⟩ := List.mem_flatMap.1 h
  exact showC_no10 c hc
theorem signC_cases (k : Int) : (k = 1 ∧ signC k = 62) ∨ (k = 2 ∧ signC k = 60) ∨ (k = 3 ∧ signC k = 61) ∨ (k = 4 ∧ signC k = 33) ∨ (¬ (1 ≤ k ∧ k ≤ 4) ∧ signC k = 63) := by
  unfold signC
  by_cases h1 : k = 1
  · exact .inl ⟨h1, by rw [if_pos h1]⟩
  · by_cases h2 : k = 2
    · exact .inr (.inl ⟨h2, by rw [if_neg h1, if_pos h2]⟩)
    · by_cases h3 : k = 3
      · exact .inr (.inr (.inl ⟨h3, by rw [if_neg h1, if_neg h2, if_pos h3]⟩))
      · by_cases h4 : k = 4
        · exact .inr (.inr (.inr (.inl ⟨h4, by rw [if_neg h1, if_neg h2, if_neg h3, if_pos h4]⟩)))
        · exact .inr (.inr (.inr (.inr ⟨by omega, by rw [if_neg h1, if_neg h2, if_neg h3, if_neg h4]⟩)))
theorem sign_no (k : Int) : signC k ≠ 10 ∧ signC k ≠ 32 := by
  rcases signC_cases k with ⟨_, h⟩ | ⟨_, h⟩ | ⟨_, h⟩ | ⟨_, h⟩ | ⟨_, h⟩ <;> (rw [h]; decide)
theorem kind_sign (k : Int) : kindOf [signC k] = if 1 ≤ k ∧ k ≤ 4 then k else 0 := by
  rcases signC_cases k with ⟨rfl, h⟩ | ⟨rfl, h⟩ | ⟨rfl, h⟩ | ⟨rfl, h⟩ | ⟨hk, h⟩
  · rw [h]; rfl
  · rw [h]; rfl
  · rw [h]; rfl
  · rw [h]; rfl
  · rw [h, if_neg hk]; rfl
theorem rowE_no10 (e : Ent) : 10 ∉ rowE e := by
  unfold rowE
  intro h
  rcases List.mem_append.1 h with h | h
  · exact itoa_no10 _ h
  · rcases List.mem_cons.1 h with h | h
    · cases h
    · rcases List.mem_cons.1 h with h | h
      · exact (sign_no e.2.1).1 h.symm
      · rcases List.mem_cons.1 h with h | h
        · cases h
        · exact showL_no10 _ h
theorem readOne_row (e : Ent) (R : List UInt8) : readOne (rowE e ++ 10 :: R) = if fineE e = true then some (e, R) else none := by
  unfold readOne
  rw [cutX_of 10 (rowE_no10 e)]
  simp only
  have hp : pcs (rowE e) = [itoa e.1, [signC e.2.1], showL e.2.2] := by
    have := pcs_three (showL e.2.2) (itoa_no32 e.1) (b := [signC e.2.1]) (by rw [List.mem_singleton]; exact fun h => (sign_no e.2.1).2 h.symm)
    exact this
  rw [hp]
  simp only [List.length_singleton, if_true]
  rw [meantL_show, numD_itoa, kind_sign]
  have htk : (rowE e ++ 10 :: R).take ((rowE e ++ 10 :: R).length - R.length) = rowE e ++ [10] := by
    have e0 : (rowE e ++ 10 :: R).length - R.length = (rowE e ++ [10]).length := by simp; omega
    rw [e0, show rowE e ++ 10 :: R = (rowE e ++ [10]) ++ R by simp, List.take_left]
  rw [htk]
  by_cases h1 : 0 ≤ e.1 ∧ e.1 ≤ 999999999
  · rw [if_pos h1]
    simp only
    by_cases h2 : 1 ≤ e.2.1 ∧ e.2.1 ≤ 4
    · rw [if_pos h2, if_pos ⟨h2.1, by simp [textL]⟩, if_pos (by simp [fineE]; omega)]
    · rw [if_neg h2, if_neg (by simp), if_neg (by simp [fineE]; omega)]
  · rw [if_neg h1]
    simp only
    rw [if_neg (show ¬ fineE e = true by simp [fineE]; omega)]
theorem readL_text : ∀ (es : List Ent) (k : Nat), es.length ≤ k → readL k (textL es) = if es.all fineE = true then some es else none
  | [], k, _ => by
    cases k <;> simp [readL, textL]
  | e :: es, k, hk => by
    obtain ⟨k, rfl⟩ : ∃ k', k = k' + 1 := ⟨k - 1, by simp at hk; omega⟩
    have ht : textL (e :: es) = rowE e ++ 10 :: textL es := by simp [textL]
    rw [ht, readL, if_neg (by simp), readOne_row]
    by_cases h : fineE e = true
    · rw [if_pos h, Option.bind_some]
      simp only
      rw [readL_text es k (by simp at hk; omega)]
      by_cases h2 : es.all fineE = true
      · rw [if_pos h2, if_pos (by simp [h]; simpa using h2)]
        rfl
      · rw [if_neg h2, if_neg (by rw [List.all_cons, h, Bool.true_and]; exact h2)]
        rfl
    · rw [if_neg h, if_neg (by rw [List.all_cons, Bool.and_eq_true]; exact fun hh => h hh.1)]
      rfl
end Go.Proofs.YtammhfnolafknaaDoor
