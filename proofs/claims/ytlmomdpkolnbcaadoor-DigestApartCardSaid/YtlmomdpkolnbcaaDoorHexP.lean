/- Letters as bytes: plain laws. -/
import Derived.Test.YtlmomdpkolnbcaaDoorUnh
set_option linter.unusedVariables false
set_option linter.unusedSimpArgs false
namespace Go.Proofs.YtlmomdpkolnbcaaDoor
open Go.RowKit Go.Shelf

theorem hexD_hexC : ∀ n : Fin 16, hexD (hexC n.val) = some n.val := by decide +kernel
theorem hexC_all : ∀ n : Fin 256, (match hexD (UInt8.ofNat n.val) with | some x => decide (hexC x = UInt8.ofNat n.val) | none => true) = true := by decide +kernel
theorem hexC_hexD {c : UInt8} {x : Nat} (h : hexD c = some x) : hexC x = c := by
  have := hexC_all ⟨c.toNat, c.toNat_lt⟩
  simp only [UInt8.ofNat_toNat] at this
  rw [h] at this
  simpa using this
theorem hexL_cons (c : UInt8) (l : List UInt8) : hexL (c :: l) = hexC (c.toNat / 16) :: hexC (c.toNat % 16) :: hexL l := by simp [hexL, hex2]
theorem unH_hexL : ∀ l : List UInt8, unH (hexL l) = some l
  | [] => rfl
  | c :: l => by
    have hc := c.toNat_lt
    rw [hexL_cons, unH_some _ (hexD_hexC ⟨c.toNat / 16, by omega⟩) (hexD_hexC ⟨c.toNat % 16, by omega⟩), unH_hexL l]
    simp only [Option.map_some]
    rw [show c.toNat / 16 * 16 + c.toNat % 16 = c.toNat by omega]
    simp
theorem unH_inv : ∀ (t m : List UInt8), unH t = some m → hexL m = t
  | [], m, h => by
    rw [unH] at h
    obtain rfl := Option.some.inj h
    rfl
  | [_], m, h => by rw [unH] at h; cases h
  | a :: b :: r, m, h => by
    rw [unH] at h
    cases ha : hexD a with
    | none => rw [ha] at h; cases h
    | some x =>
      cases hb : hexD b with
      | none => rw [ha, hb] at h; cases h
      | some y =>
        rw [ha, hb] at h
        simp only at h
        obtain ⟨m', hm', rfl⟩ := Option.map_eq_some_iff.1 h
        have hx := hexD_lt ha
        have hy := hexD_lt hb
        have e : (UInt8.ofNat (x * 16 + y)).toNat = x * 16 + y := by simp; omega
        rw [hexL_cons, e, show (x * 16 + y) / 16 = x by omega, show (x * 16 + y) % 16 = y by omega, hexC_hexD ha, hexC_hexD hb, unH_inv r m' hm']
theorem unH_len {t m : List UInt8} (h : unH t = some m) : t.length = 2 * m.length := by rw [← unH_inv t m h, hexL_len]
theorem unH_odd (b : List UInt8) (x : UInt8) : unH (hexL b ++ [x]) = none := by
  cases h : unH (hexL b ++ [x]) with
  | none => rfl
  | some m =>
    have := unH_len h
    rw [List.length_append, hexL_len] at this
    simp only [List.length_cons, List.length_nil] at this
    omega
theorem unH_isSome : ∀ t : List UInt8, (unH t).isSome = (decide (t.length % 2 = 0) && t.all fun c => (hexD c).isSome)
  | [] => rfl
  | [_] => by simp [unH]
  | a :: b :: r => by
    have ih := unH_isSome r
    rw [unH]
    have hl : decide ((a :: b :: r).length % 2 = 0) = decide (r.length % 2 = 0) := by simp only [List.length_cons]; congr 1; apply propext; omega
    rw [hl, List.all_cons, List.all_cons]
    cases ha : hexD a with
    | none => simp
    | some x =>
      cases hb : hexD b with
      | none => simp
      | some y => simp [ih]
theorem hexL_app (a b : List UInt8) : hexL (a ++ b) = hexL a ++ hexL b := by simp [hexL]
theorem hexL_all (b : List UInt8) : (hexL b).all (fun c => (hexD c).isSome) = true := by
  have := unH_isSome (hexL b)
  rw [unH_hexL] at this
  simp only [Option.isSome_some] at this
  have h := this.symm
  rw [Bool.and_eq_true] at h
  exact h.2
theorem unH_turn (b : List UInt8) (i : Nat) (h : i < (hexL b).length) (c : UInt8) : (unH ((hexL b).take i ++ (c :: (hexL b).drop (i + 1)))).isSome = (hexD c).isSome := by
  have hall := hexL_all b
  have hl := hexL_len b
  obtain ⟨l, hle⟩ : ∃ l, hexL b = l := ⟨_, rfl⟩
  rw [hle] at hall hl h ⊢
  rw [unH_isSome]
  have h1 : (l.take i ++ (c :: l.drop (i + 1))).length = l.length := by simp; omega
  have h2 : (l.take i).all (fun c => (hexD c).isSome) = true := List.all_eq_true.2 fun x hx => (List.all_eq_true.1 hall) x (List.mem_of_mem_take hx)
  have h3 : (l.drop (i + 1)).all (fun c => (hexD c).isSome) = true := List.all_eq_true.2 fun x hx => (List.all_eq_true.1 hall) x (List.mem_of_mem_drop hx)
  rw [h1, List.all_append, List.all_cons, h2, h3, hl, decide_eq_true (by omega)]
  simp
/-- What is read of one letter turned is others. -/
theorem unH_others (b t : List UInt8) (h : t ≠ hexL b) (hb : b ≠ []) : (unH t).getD [] ≠ b := by
  cases hu : unH t with
  | none => exact fun e => hb e.symm
  | some m =>
    intro e
    simp only [Option.getD_some] at e
    subst e
    exact h (unH_inv t m hu).symm
end Go.Proofs.YtlmomdpkolnbcaaDoor
