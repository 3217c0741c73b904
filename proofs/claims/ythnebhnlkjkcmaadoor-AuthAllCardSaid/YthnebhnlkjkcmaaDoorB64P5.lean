/- What letters say: plain lists. -/
import Derived.Test.YthnebhnlkjkcmaaDoorB64R5
import Derived.Lib.TrimByte
set_option linter.unusedVariables false
set_option linter.unusedSimpArgs false
namespace Go.Proofs.YthnebhnlkjkcmaaDoor
open Go.RowKit

/-- Bytes out of parts of six bits: b bits are kept, whose number is n. -/
def decF : Nat → Nat → List Nat → List UInt8
  | _, _, [] => []
  | b, n, v :: vs => if 2 ≤ b then UInt8.ofNat ((n * 64 + v) / 2 ^ (b - 2)) :: decF (b - 2) ((n * 64 + v) % 2 ^ (b - 2)) vs else decF (b + 6) (n * 64 + v) vs
def isL (c : UInt8) : Bool := decide (val c < 64)
/-- What the program's Take says. -/
def takeF (l : List UInt8) : Option (List UInt8) :=
  let t := Lib.trimRightB l 61
  if t.all isL then (let out := decF 0 0 (t.map val); if put64 out = l then some out else none) else none
/-- What the reference's Take says. -/
def takeR (l : List UInt8) : Option (List UInt8) :=
  let out := decF 0 0 ((l.takeWhile isL).map val); if put64 out = l then some out else none

theorem isL_al (x : Nat) : isL (al (x % 64)) = true := by
  have h : x % 64 < 64 := Nat.mod_lt _ (by decide)
  unfold isL
  rw [val_al _ h]
  simpa using h
theorem put64_parts : ∀ (n : Nat) (l : List UInt8), l.length ≤ n → ∃ ls, put64 l = ls ++ List.replicate ((3 - l.length % 3) % 3) 61 ∧ (∀ b ∈ ls, isL b = true) ∧ decF 0 0 (ls.map val) = l
  | 0, l, h => by
    obtain rfl : l = [] := List.eq_nil_of_length_eq_zero (by omega)
    exact ⟨[], by rw [put64_nil]; rfl, by simp, rfl⟩
  | n + 1, l, h => by
    have hv : ∀ x, val (al (x % 64)) = x % 64 := fun x => val_al _ (Nat.mod_lt _ (by decide))
    match l, h with
    | [], _ => exact ⟨[], by rw [put64_nil]; rfl, by simp, rfl⟩
    | [a], _ =>
      refine ⟨[al (head3 [a] / 2 ^ (6 * (3 - 0)) % 64), al (head3 [a] / 2 ^ (6 * (3 - 1)) % 64)], ?_, ?_, ?_⟩
      · rw [put64_step (by simp)]
        show _ ++ put64 [] = _
        rw [put64_nil]
        rfl
      · intro b hb
        simp only [List.mem_cons, List.not_mem_nil, or_false] at hb
        rcases hb with rfl | rfl <;> exact isL_al _
      · have ha := a.toNat_lt
        simp only [List.map_cons, List.map_nil, hv, decF, head3, num3, at0]
        simp
        rw [← UInt8.toNat_inj]
        simp
        omega
    | [a, b], _ =>
      refine ⟨[al (head3 [a, b] / 2 ^ (6 * (3 - 0)) % 64), al (head3 [a, b] / 2 ^ (6 * (3 - 1)) % 64), al (head3 [a, b] / 2 ^ (6 * (3 - 2)) % 64)], ?_, ?_, ?_⟩
      · rw [put64_step (by simp)]
        show _ ++ put64 [] = _
        rw [put64_nil]
        rfl
      · intro x hb
        simp only [List.mem_cons, List.not_mem_nil, or_false] at hb
        rcases hb with rfl | rfl | rfl <;> exact isL_al _
      · have ha := a.toNat_lt
        have hb := b.toNat_lt
        simp only [List.map_cons, List.map_nil, hv, decF, head3, num3, at0]
        simp
        constructor
        · rw [← UInt8.toNat_inj]
          simp
          omega
        · rw [← UInt8.toNat_inj]
          simp
          omega
    | a :: b :: c :: r, h =>
      obtain ⟨ls, h1, h2, h3⟩ := put64_parts n r (by simp at h; omega)
      have e1 : min (a :: b :: c :: r).length 3 = 3 := by simp
      refine ⟨quad (head3 (a :: b :: c :: r)) 3 ++ ls, ?_, ?_, ?_⟩
      · rw [put64_step (by simp), e1]
        show _ ++ put64 r = _
        rw [h1, List.append_assoc]
        congr 3
        simp only [List.length_cons]
        omega
      · intro x hx
        rcases List.mem_append.1 hx with hx | hx
        · simp only [quad, List.mem_cons, List.not_mem_nil, or_false] at hx
          rcases hx with rfl | rfl | rfl | rfl <;> (rw [ch_in (by decide)]; exact isL_al _)
        · exact h2 x hx
      · have ha := a.toNat_lt
        have hb := b.toNat_lt
        have hc := c.toNat_lt
        have e2 : (quad (head3 (a :: b :: c :: r)) 3 ++ ls).map val = (head3 (a :: b :: c :: r) / 262144 % 64) :: (head3 (a :: b :: c :: r) / 4096 % 64) :: (head3 (a :: b :: c :: r) / 64 % 64) :: (head3 (a :: b :: c :: r) % 64) :: ls.map val := by
          simp only [quad, ch_in (show 0 ≤ 3 by decide), ch_in (show 1 ≤ 3 by decide), ch_in (show 2 ≤ 3 by decide), ch_in (show 3 ≤ 3 by decide), List.cons_append, List.nil_append, List.map_cons, hv]
          simp
        rw [e2]
        simp only [decF, head3, num3, at0]
        simp
        refine ⟨?_, ?_, ?_, ?_⟩
        · rw [← UInt8.toNat_inj]
          simp
          omega
        · rw [← UInt8.toNat_inj]
          simp
          omega
        · rw [← UInt8.toNat_inj]
          simp
          omega
        · rw [← h3]
          congr 1
          omega
theorem put64_size : ∀ (n : Nat) (l : List UInt8), l.length ≤ n → (put64 l).length = (l.length + 2) / 3 * 4
  | 0, l, h => by
    obtain rfl : l = [] := List.eq_nil_of_length_eq_zero (by omega)
    rw [put64_nil]; rfl
  | n + 1, l, h => by
    by_cases he : l = []
    · subst he; rw [put64_nil]; rfl
    · have hp : 0 < l.length := List.length_pos_iff.2 he
      rw [put64_step he, List.length_append, put64_size n (l.drop (min l.length 3)) (by rw [List.length_drop]; omega), List.length_drop]
      simp only [quad, List.length_cons, List.length_nil]
      omega
theorem takeWhile_self {p : UInt8 → Bool} : ∀ t : List UInt8, (∀ b ∈ t, p b = true) → t.takeWhile p = t
  | [], _ => rfl
  | x :: r, h => by rw [List.takeWhile_cons, h x (by simp)]; simp only [if_true]; rw [takeWhile_self r fun b hb => h b (by simp [hb])]
theorem takeWhile_all (t : List UInt8) (k : Nat) (h : ∀ b ∈ t, isL b = true) : (t ++ List.replicate k 61).takeWhile isL = t := by
  rw [List.takeWhile_append]
  have h1 : t.takeWhile isL = t := takeWhile_self t h
  rw [h1, if_pos rfl]
  have h2 : (List.replicate k (61 : UInt8)).takeWhile isL = [] := by
    cases k with
    | zero => rfl
    | succ k => rw [List.replicate_succ, List.takeWhile_cons]; rfl
  rw [h2, List.append_nil]
theorem trim_all (t : List UInt8) (k : Nat) (h : ∀ b ∈ t, isL b = true) : Lib.trimRightB (t ++ List.replicate k 61) 61 = t := by
  unfold Lib.trimRightB
  rw [List.reverse_append, List.reverse_replicate]
  have h1 : ∀ m (u : List UInt8), (∀ b ∈ u, isL b = true) → (List.replicate m (61 : UInt8) ++ u).dropWhile (· == 61) = u := by
    intro m u hu
    induction m with
    | zero =>
      cases u with
      | nil => rfl
      | cons x r =>
        have hx := hu x (by simp)
        have : (x == 61) = false := by
          rw [beq_eq_false_iff_ne]
          rintro rfl
          revert hx
          decide
        rw [List.replicate_zero, List.nil_append, List.dropWhile_cons, this]
        rfl
    | succ m ih => rw [List.replicate_succ, List.cons_append, List.dropWhile_cons]; simpa using ih
  rw [h1 k t.reverse (fun b hb => h b (by simpa using hb)), List.reverse_reverse]
theorem trim_parts (l : List UInt8) : ∃ k, l = Lib.trimRightB l 61 ++ List.replicate k 61 := by
  refine ⟨(l.reverse.takeWhile (· == 61)).length, ?_⟩
  have h1 : l.reverse.takeWhile (· == 61) = List.replicate (l.reverse.takeWhile (· == 61)).length 61 := by
    rw [List.eq_replicate_iff]
    refine ⟨rfl, fun b hb => ?_⟩
    have := List.all_takeWhile (l := l.reverse) (p := (· == (61 : UInt8)))
    rw [List.all_eq_true] at this
    simpa using this b hb
  have h2 := List.takeWhile_append_dropWhile (p := (· == (61 : UInt8))) (l := l.reverse)
  rw [h1] at h2
  have h3 := congrArg List.reverse h2
  rw [List.reverse_append, List.reverse_reverse, List.reverse_replicate] at h3
  exact h3.symm
theorem takeF_back (b : List UInt8) : takeF (put64 b) = some b := by
  obtain ⟨ls, h1, h2, h3⟩ := put64_parts _ b (Nat.le_refl _)
  have e : Lib.trimRightB (put64 b) 61 = ls := by rw [h1]; exact trim_all ls _ h2
  unfold takeF
  simp only [e, h3]
  rw [if_pos (List.all_eq_true.2 h2)]
  exact if_pos trivial
theorem takeF_put {l out : List UInt8} (h : takeF l = some out) : put64 out = l := by
  unfold takeF at h
  simp only at h
  split at h
  · split at h
    · rename_i h2
      injection h with h
      rw [← h]; exact h2
    · cases h
  · cases h
theorem takeF_eq (l : List UInt8) : takeF l = takeR l := by
  obtain ⟨k, hk⟩ := trim_parts l
  obtain ⟨t, ht⟩ : ∃ t, Lib.trimRightB l 61 = t := ⟨_, rfl⟩
  unfold takeF takeR
  simp only
  rw [ht] at hk ⊢
  by_cases ha : t.all isL = true
  · rw [if_pos ha]
    have : l.takeWhile isL = t := by rw [hk]; exact takeWhile_all t k (List.all_eq_true.1 ha)
    rw [this]
  · rw [if_neg ha, if_neg]
    intro hp
    obtain ⟨ls, h1, h2, _⟩ := put64_parts _ (decF 0 0 ((l.takeWhile isL).map val)) (Nat.le_refl _)
    rw [hp] at h1
    have e : Lib.trimRightB l 61 = ls := by rw [h1]; exact trim_all ls _ h2
    rw [ht] at e
    rw [e] at ha
    exact ha (List.all_eq_true.2 h2)
end Go.Proofs.YthnebhnlkjkcmaaDoor
