/- Addresses: what is read of numbers that were written: plain laws. -/
import Derived.Test.YtlbipnfnimekfaaDoorAddrT
import Derived.Test.YtlbipnfnimekfaaDoorAddrEP
import Derived.Test.YtlbipnfnimekfaaDoorAddrR2
set_option linter.unusedVariables false
set_option linter.unusedSimpArgs false
namespace Go.Proofs.YtlbipnfnimekfaaDoor
open Go.RowKit Go.Lib

theorem dg_nat {d : Nat} (h : d < 10) : (UInt8.ofNat (48 + d)).toNat = 48 + d := by
  simp
  omega
theorem valF_app (l : List UInt8) (c : UInt8) : valF 0 (l ++ [c]) = valF 0 l * 10 + (c.toNat - 48) := valF_snoc l 0 c
theorem valF_dec : ∀ (n u : Nat), u ≤ n → valF 0 (decDigits u) = u := by
  intro n
  induction n with
  | zero =>
    intro u hu
    obtain rfl : u = 0 := by omega
    rw [decDigits_one (by omega)]
    rfl
  | succ n ih =>
    intro u hu
    by_cases h : u < 10
    · rw [decDigits_one h, valF_cons, dg_nat h]
      simp [valF]
    · rw [decDigits, dif_neg h, valF_app, ih (u / 10) (by omega), dg_nat (by omega)]
      omega
theorem decD_digs : ∀ (n u : Nat), u ≤ n → (decDigits u).all digC = true := by
  intro n
  induction n with
  | zero =>
    intro u hu
    obtain rfl : u = 0 := by omega
    rw [decDigits_one (by omega)]
    rfl
  | succ n ih =>
    intro u hu
    by_cases h : u < 10
    · rw [decDigits_one h, List.all_cons, List.all_nil, Bool.and_true, digC, dg_nat h]
      simp
      omega
    · rw [decDigits, dif_neg h, List.all_append, ih (u / 10) (by omega), List.all_cons, List.all_nil, Bool.and_true, Bool.true_and, digC, dg_nat (by omega)]
      simp
      omega
theorem decD_ne (u : Nat) : decDigits u ≠ [] := by
  rw [decDigits]
  split <;> simp
theorem valF_zeros (l : List UInt8) : ∀ k : Nat, valF 0 (List.replicate k 48 ++ l) = valF 0 l
  | 0 => rfl
  | k + 1 => by
    rw [List.replicate_succ, List.cons_append, valF_cons]
    exact valF_zeros l k
theorem zeros_digs (l : List UInt8) (h : l.all digC = true) : ∀ k : Nat, (List.replicate k (48 : UInt8) ++ l).all digC = true
  | 0 => h
  | k + 1 => by
    rw [List.replicate_succ, List.cons_append, List.all_cons, zeros_digs l h k]
    rfl
/-- A row of digits. -/
def isDig (l : List UInt8) : Prop := l ≠ [] ∧ l.all digC = true
theorem dec_isDig (u : Nat) : isDig (decDigits u) := ⟨decD_ne u, decD_digs u u (Nat.le_refl u)⟩
theorem zeros_isDig (k u : Nat) : isDig (List.replicate k 48 ++ decDigits u) := ⟨by simp [decD_ne], zeros_digs _ (decD_digs u u (Nat.le_refl u)) k⟩
theorem numW_zeros (k u : Nat) : numW (List.replicate k 48 ++ decDigits u) = if (List.replicate k (48 : UInt8) ++ decDigits u).length ≤ 3 ∧ u ≤ 255 then some (u : Int) else none := by
  unfold numW
  rw [numA_val]
  unfold numD
  have h := zeros_isDig k u
  have hv : valF 0 (List.replicate k 48 ++ decDigits u) = u := by rw [valF_zeros]; exact valF_dec u u (Nat.le_refl u)
  rw [hv]
  by_cases h3 : (List.replicate k (48 : UInt8) ++ decDigits u).length ≤ 3
  · rw [if_pos h3]
    by_cases hu : u ≤ 255
    · rw [if_pos ⟨h.1, by omega, h.2, by omega⟩, if_pos ⟨h3, hu⟩]
    · rw [if_neg (fun q => by have := q.2.2.2; omega), if_neg (fun q => hu q.2)]
  · rw [if_neg h3, if_neg (fun q => h3 q.1)]
theorem dec_len3 {u : Nat} (h : u ≤ 255) : (decDigits u).length ≤ 3 := by
  rw [decDigits_length]
  by_cases h1 : u < 10
  · rw [nDigits_small h1]; omega
  · rw [nDigits_big h1]
    by_cases h2 : u / 10 < 10
    · rw [nDigits_small h2]; omega
    · rw [nDigits_big h2, nDigits_small (by omega)]; omega
theorem numW_dec {u : Nat} (h : u ≤ 255) : numW (decDigits u) = some (u : Int) := by
  have := numW_zeros 0 u
  simp only [List.replicate_zero, List.nil_append] at this
  rw [this, if_pos ⟨dec_len3 h, h⟩]
/-- Rows of digits, a comma between. -/
def jn : List (List UInt8) → List UInt8
  | [] => []
  | [d] => d
  | d :: ds => d ++ 44 :: jn ds
theorem jn_cons {d e : List UInt8} {ds : List (List UInt8)} : jn (d :: e :: ds) = d ++ 44 :: jn (e :: ds) := rfl
theorem take_dig {d r : List UInt8} (hd : isDig d) (hr : ∀ c t, r = c :: t → digC c = false) : (d ++ r).takeWhile digC = d ∧ (d ++ r).dropWhile digC = r := by
  replace hd := hd.2
  induction d with
  | nil =>
    cases r with
    | nil => exact ⟨rfl, rfl⟩
    | cons c t => simp [hr c t rfl]
  | cons x d ih =>
    rw [List.all_cons, Bool.and_eq_true] at hd
    rw [List.cons_append, List.takeWhile_cons_of_pos hd.1, List.dropWhile_cons_of_pos hd.1, (ih hd.2).1, (ih hd.2).2]
    exact ⟨rfl, rfl⟩
/-- What is read of them, k + 1 numbers being asked for. -/
theorem refK_jn (B : List UInt8) : ∀ (k : Nat) (ds : List (List UInt8)), (∀ c t, B = c :: t → digC c = false ∧ (c ≠ 44 ∨ k + 1 ≤ ds.length)) → ds ≠ [] → (∀ d ∈ ds, isDig d) →
    refK k (jn ds ++ B) = if k + 1 ≤ ds.length then allNum (ds.take (k + 1)) else none
  | 0, ds, hB, hne, hd => by
    cases ds with
    | nil => exact absurd rfl hne
    | cons d ds =>
      have h1 : (jn (d :: ds) ++ B).takeWhile digC = d := by
        cases ds with
        | nil => exact (take_dig (d := d) (r := B) (hd d (by simp)) fun c t h => (hB c t h).1).1
        | cons e ds =>
          rw [jn_cons, List.append_assoc, List.cons_append]
          exact (take_dig (d := d) (r := 44 :: (jn (e :: ds) ++ B)) (hd d (by simp)) fun c t h => by injection h with h _; rw [← h]; rfl).1
      rw [refK, h1, if_pos (by simp), List.take_succ_cons, List.take_zero, allNum, allNum]
      cases numW d <;> rfl
  | k + 1, ds, hB, hne, hd => by
    cases ds with
    | nil => exact absurd rfl hne
    | cons d ds =>
      rw [refK_comma]
      cases ds with
      | nil =>
        have h1 := take_dig (hd d (by simp)) fun c t h => (hB c t h).1
        rw [show jn [d] = d from rfl, h1.1, h1.2, if_neg (by simp)]
        cases B with
        | nil => rfl
        | cons c t => rw [comma, if_neg ((hB c t rfl).2.resolve_right (by simp))]; rfl
      | cons e ds =>
        have h1 := take_dig (r := 44 :: (jn (e :: ds) ++ B)) (hd d (by simp)) fun c t h => by injection h with h _; rw [← h]; rfl
        rw [jn_cons, List.append_assoc, List.cons_append, h1.1, h1.2, comma, if_pos rfl, Option.bind_some, refK_jn B k (e :: ds) (fun c t h => ⟨(hB c t h).1, (hB c t h).2.imp id (by simp)⟩) (by simp) fun x hx => hd x (by simp [hx])]
        by_cases hk : k + 1 ≤ (e :: ds).length
        · rw [if_pos hk, if_pos (by simp at hk ⊢; omega)]; rfl
        · rw [if_neg hk, if_neg (by simp at hk ⊢; omega)]
          cases numW d <;> rfl
/-- No digit at all. -/
def noDig (l : List UInt8) : Prop := ∀ c ∈ l, digC c = false
theorem drop_noDig {a r : List UInt8} (ha : noDig a) (hr : ∃ c t, r = c :: t ∧ digC c = true) : (a ++ r).dropWhile (fun c => !digC c) = r := by
  induction a with
  | nil =>
    obtain ⟨c, t, rfl, hc⟩ := hr
    simp [hc]
  | cons x a ih =>
    rw [List.cons_append, List.dropWhile_cons_of_pos (by simp [ha x (by simp)])]
    exact ih fun c hc => ha c (by simp [hc])
theorem jn_head {ds : List (List UInt8)} (hne : ds ≠ []) (hd : ∀ d ∈ ds, isDig d) (B : List UInt8) : ∃ c t, jn ds ++ B = c :: t ∧ digC c = true := by
  cases ds with
  | nil => exact absurd rfl hne
  | cons d ds =>
    obtain ⟨h1, h2⟩ := hd d (by simp)
    cases d with
    | nil => exact absurd rfl h1
    | cons c d =>
      rw [List.all_cons, Bool.and_eq_true] at h2
      cases ds with
      | nil => exact ⟨c, _, rfl, h2.1⟩
      | cons e ds => exact ⟨c, _, rfl, h2.1⟩
/-- What is read of numbers between texts without digits. -/
theorem pasv_jn {A B : List UInt8} {ds : List (List UInt8)} (hA : noDig A) (hB : ∀ c t, B = c :: t → digC c = false ∧ (c ≠ 44 ∨ 6 ≤ ds.length)) (hne : ds ≠ []) (hd : ∀ d ∈ ds, isDig d) :
    pasvL (A ++ (jn ds ++ B)) = if 6 ≤ ds.length then (match allNum (ds.take 6) with
      | some [a, b, c, d, e, f] => if e * 256 + f = 0 then none else some ⟨a, b, c, d, e * 256 + f⟩
      | _ => none) else none := by
  unfold pasvL
  rw [drop_noDig hA (jn_head hne hd B), refK_jn B 5 ds hB hne hd]
  by_cases h : 5 + 1 ≤ ds.length
  · rw [if_pos h, if_pos h]; rfl
  · rw [if_neg h, if_neg h]
theorem textL_jn (x : AdL) : textL x = jn ((sixN x).map itoa) := by
  simp [textL, sixN, Lib.join, jn]
theorem itoa_nn {n : Int} (h : 0 ≤ n) : itoa n = decDigits n.toNat := by
  unfold itoa
  rw [if_neg (by omega)]
/-- A place whose numbers are as they must be. -/
def fineA (x : AdL) : Prop := (0 ≤ x.a ∧ x.a ≤ 255) ∧ (0 ≤ x.b ∧ x.b ≤ 255) ∧ (0 ≤ x.c ∧ x.c ≤ 255) ∧ (0 ≤ x.d ∧ x.d ≤ 255) ∧ 0 ≤ x.p ∧ x.p ≤ 65535
theorem six_fine {x : AdL} (h : fineA x) : ∀ n ∈ sixN x, 0 ≤ n ∧ n ≤ 255 := by
  obtain ⟨h1, h2, h3, h4, h5⟩ := h
  intro n hn
  simp only [sixN, List.mem_cons, List.not_mem_nil, or_false] at hn
  rcases hn with rfl | rfl | rfl | rfl | rfl | rfl <;> omega
theorem allNum_itoa : ∀ (l : List Int), (∀ n ∈ l, 0 ≤ n ∧ n ≤ 255) → allNum (l.map itoa) = some l
  | [], _ => rfl
  | n :: l, h => by
    have hn := h n (by simp)
    rw [List.map_cons, allNum, itoa_nn hn.1, numW_dec (by omega), allNum_itoa l fun m hm => h m (by simp [hm]), Int.toNat_of_nonneg hn.1]
    rfl
theorem itoas_dig {l : List Int} (h : ∀ n ∈ l, 0 ≤ n ∧ n ≤ 255) : ∀ d ∈ l.map itoa, isDig d := by
  intro d hd
  rw [List.mem_map] at hd
  obtain ⟨n, hn, rfl⟩ := hd
  rw [itoa_nn (h n hn).1]
  exact dec_isDig _
theorem pasv_text {A B : List UInt8} {x : AdL} (hA : noDig A) (hB : ∀ c t, B = c :: t → digC c = false) (hx : fineA x) :
    pasvL (A ++ (textL x ++ B)) = if x.p = 0 then none else some x := by
  have h6 := six_fine hx
  rw [textL_jn, pasv_jn hA (fun c t h => ⟨hB c t h, .inr (by simp [sixN])⟩) (by simp [sixN]) (itoas_dig h6), if_pos (by simp [sixN]), List.take_of_length_le (by simp [sixN]), allNum_itoa _ h6]
  simp only [sixN]
  have e : x.p / 256 * 256 + x.p % 256 = x.p := by omega
  rw [e]
theorem allNum_none {ws : List (List UInt8)} {w : List UInt8} (hw : w ∈ ws) (hn : numW w = none) : allNum ws = none := by
  induction ws with
  | nil => cases hw
  | cons x ws ih =>
    rw [allNum]
    rcases List.mem_cons.1 hw with rfl | hw
    · rw [hn]; rfl
    · rw [ih hw]
      cases numW x <;> rfl
theorem pasv_big {x : AdL} (hx : fineA x) : pasvL ([50, 53, 54, 44] ++ textL x) = none := by
  have h6 := six_fine hx
  have hd : ∀ d ∈ ([50, 53, 54] : List UInt8) :: (sixN x).map itoa, isDig d := by
    intro d hd
    rcases List.mem_cons.1 hd with rfl | hd
    · exact ⟨by simp, by decide⟩
    · exact itoas_dig h6 d hd
  have e : ([50, 53, 54, 44] : List UInt8) ++ textL x = [] ++ (jn ([50, 53, 54] :: (sixN x).map itoa) ++ []) := by
    rw [textL_jn, List.nil_append, List.append_nil]
    rfl
  rw [e, pasv_jn (by intro c hc; cases hc) (by intro c t h; cases h) (by simp) hd, if_pos (by simp [sixN]), allNum_none (w := [50, 53, 54]) (by simp) (by rfl)]
theorem jn_snoc (z : List UInt8) : ∀ (ds : List (List UInt8)) (d : List UInt8), jn (ds ++ [d]) ++ z = jn (ds ++ [d ++ z])
  | [], d => rfl
  | [e], d => by simp [jn]
  | e :: f :: ds, d => by
    have := jn_snoc z (f :: ds) d
    simp only [List.cons_append] at this ⊢
    rw [jn_cons, jn_cons, List.append_assoc, List.cons_append, this]
theorem pasv_long {x : AdL} (hx : fineA x) : pasvL (textL x ++ [48, 48, 48, 48]) = none := by
  have h6 := six_fine hx
  have he : (sixN x).map itoa = [itoa x.a, itoa x.b, itoa x.c, itoa x.d, itoa (x.p / 256)] ++ [itoa (x.p % 256)] := rfl
  have hd0 := itoas_dig h6
  have hd : ∀ d ∈ [itoa x.a, itoa x.b, itoa x.c, itoa x.d, itoa (x.p / 256)] ++ [itoa (x.p % 256) ++ [48, 48, 48, 48]], isDig d := by
    intro d hd
    rcases List.mem_append.1 hd with hd | hd
    · exact hd0 d (by rw [he]; exact List.mem_append_left _ hd)
    · obtain rfl := List.mem_singleton.1 hd
      have := hd0 (itoa (x.p % 256)) (by rw [he]; simp)
      exact ⟨by simp, by rw [List.all_append, this.2]; rfl⟩
  have e : textL x ++ [48, 48, 48, 48] = [] ++ (jn ([itoa x.a, itoa x.b, itoa x.c, itoa x.d, itoa (x.p / 256)] ++ [itoa (x.p % 256) ++ [48, 48, 48, 48]]) ++ []) := by
    rw [textL_jn, he, jn_snoc, List.nil_append, List.append_nil]
  rw [e, pasv_jn (by intro c hc; cases hc) (by intro c t h; cases h) (by simp) hd, if_pos (by simp)]
  rw [allNum_none (w := itoa (x.p % 256) ++ [48, 48, 48, 48]) (by simp)]
  unfold numW
  rw [if_neg]
  have := hd0 (itoa (x.p % 256)) (by rw [he]; simp)
  have := List.length_pos_iff.2 this.1
  rw [List.length_append]
  simp only [List.length_cons, List.length_nil]
  omega
end Go.Proofs.YtlbipnfnimekfaaDoor
