/- Addresses: a port within a sign: plain laws. -/
import Derived.Test.YtlbipnfnimekfaaDoorValP
import Derived.Test.YtlbipnfnimekfaaDoorCutP
set_option linter.unusedVariables false
set_option linter.unusedSimpArgs false
namespace Go.Proofs.YtlbipnfnimekfaaDoor
open Go.RowKit Go.Lib

/-- A port between digits' end and a bracket. -/
def portE (d : UInt8) (r : List UInt8) : Option Int :=
  match r.dropWhile digC with
  | e :: x :: _ => if e = d ∧ x = 41 then (match numD (r.takeWhile digC) 65535 with
      | some n => if (r.takeWhile digC).length ≤ 5 ∧ n ≠ 0 then some n else none
      | none => none) else none
  | _ => none
/-- The same, cut at the sign. -/
def portP (d : UInt8) (r : List UInt8) : Option Int :=
  if (cutX d r).2.2 = true then (match numD (cutX d r).1 65535 with
      | some n => if (cutX d r).1.length ≤ 5 ∧ n ≠ 0 ∧ hasPrefix (cutX d r).2.1 [41] = true then some n else none
      | none => none) else none
theorem numD_digits {l : List UInt8} {m v : Int} (h : numD l m = some v) : l.all digC = true := by
  unfold numD at h
  split at h
  · rename_i hc; exact hc.2.2.1
  · cases h
theorem take_all {a r : List UInt8} {d : UInt8} (ha : a.all digC = true) (hd : digC d = false) : (a ++ d :: r).takeWhile digC = a ∧ (a ++ d :: r).dropWhile digC = d :: r := by
  induction a with
  | nil => simp [hd]
  | cons x a ih =>
    rw [List.all_cons, Bool.and_eq_true] at ha
    rw [List.cons_append, List.takeWhile_cons_of_pos ha.1, List.dropWhile_cons_of_pos ha.1, (ih ha.2).1, (ih ha.2).2]
    exact ⟨rfl, rfl⟩
theorem hasPre41 (r : List UInt8) : hasPrefix r [41] = true ↔ ∃ r', r = 41 :: r' := by
  cases r with
  | nil => simp [hasPrefix]
  | cons c r =>
    simp only [hasPrefix, List.isPrefixOf, Bool.and_true, beq_iff_eq]
    constructor
    · intro h; exact ⟨r, by rw [h]⟩
    · rintro ⟨r', h⟩; injection h with h _; exact h.symm
theorem port_same {d : UInt8} (hd : digC d = false) (r : List UInt8) : portP d r = portE d r := by
  rcases cutX_cases d r with ⟨a, t, hr, hna, hc⟩ | ⟨hn, hc⟩
  · have hP : portP d r = (match numD a 65535 with
      | some n => if a.length ≤ 5 ∧ n ≠ 0 ∧ hasPrefix t [41] = true then some n else none
      | none => none) := by unfold portP; rw [hc]; rfl
    rw [hP]
    cases hda : a.all digC with
    | true =>
      obtain ⟨h1, h2⟩ := take_all (r := t) hda hd
      unfold portE
      rw [hr, h1, h2]
      cases t with
      | nil =>
        have : ¬ hasPrefix ([] : List UInt8) [41] = true := by rw [hasPre41]; rintro ⟨r', h⟩; cases h
        simp only [this, and_false, if_false]
        cases numD a 65535 <;> simp
      | cons x t =>
        by_cases hx : x = 41
        · subst hx
          have : hasPrefix (41 :: t) [41] = true := (hasPre41 _).2 ⟨t, rfl⟩
          simp only [this, and_true, if_true]
        · have : ¬ hasPrefix (x :: t) [41] = true := by rw [hasPre41]; rintro ⟨r', h⟩; injection h with h _; exact hx h
          simp only [this, and_false, if_false, hx]
          cases numD a 65535 <;> simp
    | false =>
      have hnone : numD a 65535 = none := by
        cases h : numD a 65535 with
        | none => rfl
        | some v => rw [numD_digits h] at hda; cases hda
      rw [hnone]
      unfold portE
      cases hdr : r.dropWhile digC with
      | nil => rfl
      | cons e u =>
        cases u with
        | nil => rfl
        | cons x u =>
          simp only
          split
          · rename_i hex
            exfalso
            have hsp := List.takeWhile_append_dropWhile (p := digC) (l := r)
            rw [hdr, hex.1] at hsp
            have hmem : ∀ y ∈ r.takeWhile digC, digC y = true := fun y hy => by
              have := List.all_takeWhile (p := digC) (l := r)
              exact List.all_eq_true.1 this y hy
            have hnd : d ∉ r.takeWhile digC := by
              intro hm
              have := hmem d hm
              rw [hd] at this; cases this
            have h2 := cutX_of d (r := x :: u) hnd
            rw [hsp, hc] at h2
            simp only [Prod.mk.injEq] at h2
            have : a.all digC = true := by
              rw [h2.1]
              exact List.all_eq_true.2 hmem
            rw [this] at hda; cases hda
          · rfl
  · have hP : portP d r = none := by unfold portP; rw [hc]; rfl
    rw [hP]
    unfold portE
    cases hdr : r.dropWhile digC with
    | nil => rfl
    | cons e u =>
      cases u with
      | nil => rfl
      | cons x u =>
        simp only
        split
        · rename_i hex
          exfalso
          refine hn ?_
          have hm : e ∈ r.dropWhile digC := by rw [hdr]; simp
          rw [← hex.1]
          exact (List.dropWhile_suffix digC).subset hm
        · rfl
/-- What stands behind the bracket says of a port. -/
def epsvT : List UInt8 → Option Int
  | d :: d2 :: d3 :: r => if 33 ≤ d.toNat ∧ d.toNat ≤ 126 ∧ digC d = false ∧ d2 = d ∧ d3 = d then portE d r else none
  | _ => none
/-- What a reply says of a port. -/
def epsvL (s : List UInt8) : Option Int :=
  match s.dropWhile (fun c => c != 40) with
  | _ :: T => epsvT T
  | [] => none
theorem drop_cut : ∀ s : List UInt8, s.dropWhile (fun c => c != 40) = if (cutX 40 s).2.2 = true then 40 :: (cutX 40 s).2.1 else []
  | [] => rfl
  | c :: s => by
    rw [cutX]
    by_cases h : c = 40
    · subst h
      rfl
    · rw [List.dropWhile_cons_of_pos (by simpa using h), if_neg h]
      exact drop_cut s
theorem epsvL_cut (s : List UInt8) : epsvL s = if (cutX 40 s).2.2 = true then epsvT (cutX 40 s).2.1 else none := by
  unfold epsvL
  rw [drop_cut]
  cases (cutX 40 s).2.2 <;> rfl
theorem epsvT_short {T : List UInt8} (h : T.length < 4) : epsvT T = none := by
  rcases T with _ | ⟨a, _ | ⟨b, _ | ⟨c, _ | ⟨d, r⟩⟩⟩⟩
  · rfl
  · rfl
  · rfl
  · simp only [epsvT]
    split
    · rfl
    · rfl
  · simp at h
    omega
end Go.Proofs.YtlbipnfnimekfaaDoor
