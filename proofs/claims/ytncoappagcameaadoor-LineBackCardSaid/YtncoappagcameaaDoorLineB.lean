/- Lines: the walks of LineTexts and LineBack. -/
import Derived.Test.YtncoappagcameaaDoorLineK
set_option linter.unusedVariables false
set_option linter.unusedSimpArgs false
namespace Go.Proofs.YtncoappagcameaaDoor
open Go.RowKit Go.Shelf

theorem and1023 (n : Int) : ∃ m : Nat, m ≤ 1023 ∧ bits .and .i64 n 1023 = (m : Int) := by
  refine ⟨(BitVec.ofInt 64 n &&& BitVec.ofInt 64 1023).toNat, ?_, ?_⟩
  · rw [BitVec.toNat_and]
    exact Nat.and_le_right
  · have h : (BitVec.ofInt 64 n &&& BitVec.ofInt 64 1023).toNat ≤ 1023 := by
      rw [BitVec.toNat_and]
      exact Nat.and_le_right
    show IntKind.i64.wrap (((BitVec.ofInt 64 n &&& BitVec.ofInt 64 1023).toNat : Nat) : Int) = _
    rw [IntKind.wrap_i64]
    omega
theorem err_status (c : UInt8) (t : List UInt8) : statusL 2 ([45, 69, 82, 82] ++ c :: t) = if c = 32 then some ([45], false, t) else none := by
  rw [statusL, if_neg (by omega), if_pos rfl, ← signed_ref]
  by_cases h : c = 32 <;> simp [signedR, restL, List.isPrefixOf, h]
theorem ok_status (t : List UInt8) : statusL 2 ([43, 79, 75, 32] ++ t) = some ([43], false, t) := by
  rw [statusL, if_neg (by omega), if_pos rfl, ← signed_ref]
  simp [signedR, restL, List.isPrefixOf]
theorem plus_status (t : List UInt8) : statusL 2 ([43, 32] ++ t) = some ([62], false, t) := by
  rw [statusL, if_neg (by omega), if_pos rfl, ← signed_ref]
  simp [signedR, restL, List.isPrefixOf]
theorem ok_status1 (t : List UInt8) : statusL 1 ([43, 79, 75, 32] ++ t) = none := by
  rw [statusL, if_pos (by omega)]
  unfold numberedL
  rw [if_neg]
  intro h
  have : numL (([43, 79, 75, 32] ++ t).take 3) = false := by
    simp [numL]
    intro h
    exact absurd h (by decide)
  rw [this] at h
  exact absurd h.1 (by decide)
theorem code_status {p : Int} (hp : p = 1 ∨ p = 3) {code : List UInt8} (hc : code.length = 3) (hn : numL code = true) (c : UInt8) (t : List UInt8) : statusL p (code ++ c :: t) = if c = 45 then some (code, true, t) else if c = 32 then some (code, false, t) else none := by
  rw [statusL, if_pos hp, numbered_code hc hn]
  rfl
theorem code_status0 {code : List UInt8} (hc : code.length = 3) (hn : numL code = true) : statusL 1 code = some (code, false, []) := by
  have := numbered_code hc hn []
  rw [List.append_nil] at this
  rw [statusL, if_pos (by omega), this]
  rfl
theorem code_status2 {code : List UInt8} (hc : code.length = 3) (hn : numL code = true) (t : List UInt8) : statusL 2 (code ++ t) = none := by
  rw [statusL, if_neg (by omega), if_pos rfl, signed_code hc hn]

set_option maxHeartbeats 4000000 in
set_option maxRecDepth 100000 in
theorem texts_h45 (w : World) (n : Int) (c : UInt8) (x : Nat) (hx : c.toNat = x) (t0 : List UInt8) (ht : t0.length ≤ 140737488351232) (hm : MaxI w) (hc : x = 45) :
    Calls Tryd.prog 3 #[.int .i64 n, .int .u8 (x : Int), .string (strB t0)] w fun en w' => en = .returned (.bool true) ∧ Kept w w' NoB := by
  obtain ⟨k, hk, hkb⟩ := and1023 n
  have hk1 : (0 : Int) ≤ (k : Int) := by omega
  obtain ⟨q, hq⟩ : ∃ q, k % 500 = q := ⟨_, rfl⟩
  have hql : q < 500 := by omega
  have hqI : (k : Int) % 500 = (q : Int) := by omega
  have HN := Lib.hid (dig3_num ⟨q, hql⟩)
  have HX := Lib.hid hx
  subst hc
  have hce : c = 45 := UInt8.toNat_inj.1 hx
  have R3 : Hid (∀ (code t : List UInt8), code.length = 3 → numL code = true → statusL 3 (code ++ c :: t) = some (code, true, t)) := fun code t h1 h2 => by rw [code_status (.inr rfl) h1 h2, if_pos hce]
  have R2 : Hid (∀ (t : List UInt8), statusL 2 ([45, 69, 82, 82] ++ c :: t) = none) := fun t => by rw [err_status, if_neg (by rw [hce]; decide)]
  clear hce
  clear hq hx
  go_enter Tryd.func3, Tryd.ntmps3
  go_wp2_with fail
  refine (shown_calls w hm).mono ?_
  rintro en w1 ⟨rfl, hk1⟩
  have HK1 := Lib.hid hk1
  clear hk1
  go_wp2_with fail
  refine (short_calls w1 t0 ht).mono ?_
  rintro en wx ⟨rfl, rfl⟩
  obtain ⟨t, hte⟩ : ∃ s, t0.take 200 = s := ⟨_, rfl⟩
  have htl : t.length ≤ 200 := by rw [← hte, List.length_take]; omega
  rw [hte]
  clear hte
  go_wp2_with fail
  refine (digits_calls wx (100 + q) (by omega) (by omega)).mono ?_
  obtain ⟨code, hcode⟩ : ∃ l, dig3 (100 + q) = l := ⟨_, rfl⟩
  have hcl : code.length = 3 := by rw [← hcode]; rfl
  have hnc : numL code = true := by rw [← hcode]; exact HN.out
  have E3 := Lib.hid (R3.out code t hcl hnc)
  have E2 := Lib.hid (R2.out t)
  have hcl3 : code.length ≤ 3 := by omega
  rw [hcode]
  rintro en w2 ⟨rfl, hk2⟩
  have HK2 := Lib.hid (HK1.out.trans' hk2)
  have hcv : (convert 25 9 (.slice (some ⟨w2.heap.size, 0, none⟩) 1 1)).run Tryd.prog (w2.alloc (.cells #[.int .u8 (45 : Int)] 5)) = .ok (.string (strB [c])) (w2.alloc (.cells #[.int .u8 (45 : Int)] 5)) := (Reads.bytes w2 5 [c] #[.int .u8 (45 : Int)] (by
    have := HX.out
    simp [b8s, B8, this]) (0, 0)).string 25 5 9 Tryd.underlying25 Tryd.underlying5 Tryd.underlying9 1
  have e1 : strB code ++ strB [c] = strB (code ++ [c]) := strB_app code [c]
  have e2 : strB (code ++ [c]) ++ strB t = strB (code ++ c :: t) := by rw [strB_app]; simp
  have e3 : (⟨#[45, 69, 82, 82]⟩ : ByteArray) ++ strB [c] = strB ([45, 69, 82, 82] ++ [c]) := strB_app [45, 69, 82, 82] [c]
  have e4 : strB ([45, 69, 82, 82] ++ [c]) ++ strB t = strB ([45, 69, 82, 82] ++ c :: t) := by rw [strB_app]; simp
  have l1 : (code ++ c :: t).length ≤ 300 := by simp; omega
  have l2 : ([45, 69, 82, 82] ++ c :: t).length ≤ 300 := by simp; omega
  obtain ⟨s1, hs1⟩ : ∃ s, code ++ c :: t = s := ⟨_, rfl⟩
  obtain ⟨s2, hs2⟩ : ∃ s, [45, 69, 82, 82] ++ c :: t = s := ⟨_, rfl⟩
  obtain ⟨u1, hu1⟩ : ∃ s, code ++ [c] = s := ⟨_, rfl⟩
  obtain ⟨u2, hu2⟩ : ∃ s, [45, 69, 82, 82] ++ [c] = s := ⟨_, rfl⟩
  have lu1 : u1.length ≤ 4 := by rw [← hu1]; simp; omega
  have lu2 : u2.length ≤ 5 := by rw [← hu2]; simp
  rw [hs1] at e2 l1 E3
  rw [hs2] at e4 l2 E2
  rw [hu1] at e1 e2
  rw [hu2] at e3 e4
  have z1 : ¬ (9223372036854775807 < code.length + 1) := by omega
  have z2 : ¬ (9223372036854775807 < u1.length + t.length) := by omega
  have z3 : ¬ (9223372036854775807 < u2.length + t.length) := by omega
  clear hk2 hcode hcl hnc hs1 hs2 hu1 hu2
  go_wp2_with fail
  refine (status_at _ 3 s1 _ _ (by omega) (hm.kept0 (HK2.out.alloc _)) E3.out (stR_mk _ _ _)).mono ?_
  rintro en w3 ⟨rfl, hk3⟩
  have HK3 := Lib.hid ((HK2.out.alloc _).trans' hk3)
  clear hk3
  go_wp2_with fail
  refine (status_at _ 2 s2 _ _ (by omega) (hm.kept0 (HK3.out.alloc _)) E2.out stR_none).mono ?_
  rintro en w4 ⟨rfl, hk4⟩
  have HK4 := Lib.hid ((HK3.out.alloc _).trans' hk4)
  have HA4 := Lib.hid ((Blk.new w3 27 #[.string (strB code), .bool true, .string (strB t)]).kept0 hk4)
  obtain ⟨a0, a1, a2, _, _, _⟩ := HA4.out.cells3
  have la := HA4.out.lt
  clear hk4
  go_wp2_with fail
  go_ret
  exact ⟨rfl, (HK4.out.alloc _).alloc _⟩
set_option maxHeartbeats 4000000 in
set_option maxRecDepth 100000 in
theorem texts_h32 (w : World) (n : Int) (c : UInt8) (x : Nat) (hx : c.toNat = x) (t0 : List UInt8) (ht : t0.length ≤ 140737488351232) (hm : MaxI w) (hc : x = 32) :
    Calls Tryd.prog 3 #[.int .i64 n, .int .u8 (x : Int), .string (strB t0)] w fun en w' => en = .returned (.bool true) ∧ Kept w w' NoB := by
  obtain ⟨k, hk, hkb⟩ := and1023 n
  have hk1 : (0 : Int) ≤ (k : Int) := by omega
  obtain ⟨q, hq⟩ : ∃ q, k % 500 = q := ⟨_, rfl⟩
  have hql : q < 500 := by omega
  have hqI : (k : Int) % 500 = (q : Int) := by omega
  have HN := Lib.hid (dig3_num ⟨q, hql⟩)
  have HX := Lib.hid hx
  subst hc
  have hce : c = 32 := UInt8.toNat_inj.1 hx
  have R3 : Hid (∀ (code t : List UInt8), code.length = 3 → numL code = true → statusL 3 (code ++ c :: t) = some (code, false, t)) := fun code t h1 h2 => by rw [code_status (.inr rfl) h1 h2, if_neg (by rw [hce]; decide), if_pos hce]
  have R2 : Hid (∀ (t : List UInt8), statusL 2 ([45, 69, 82, 82] ++ c :: t) = some ([45], false, t)) := fun t => by rw [err_status, if_pos hce]
  clear hce
  clear hq hx
  go_enter Tryd.func3, Tryd.ntmps3
  go_wp2_with fail
  refine (shown_calls w hm).mono ?_
  rintro en w1 ⟨rfl, hk1⟩
  have HK1 := Lib.hid hk1
  clear hk1
  go_wp2_with fail
  refine (short_calls w1 t0 ht).mono ?_
  rintro en wx ⟨rfl, rfl⟩
  obtain ⟨t, hte⟩ : ∃ s, t0.take 200 = s := ⟨_, rfl⟩
  have htl : t.length ≤ 200 := by rw [← hte, List.length_take]; omega
  rw [hte]
  clear hte
  go_wp2_with fail
  refine (digits_calls wx (100 + q) (by omega) (by omega)).mono ?_
  obtain ⟨code, hcode⟩ : ∃ l, dig3 (100 + q) = l := ⟨_, rfl⟩
  have hcl : code.length = 3 := by rw [← hcode]; rfl
  have hnc : numL code = true := by rw [← hcode]; exact HN.out
  have E3 := Lib.hid (R3.out code t hcl hnc)
  have E2 := Lib.hid (R2.out t)
  have hcl3 : code.length ≤ 3 := by omega
  rw [hcode]
  rintro en w2 ⟨rfl, hk2⟩
  have HK2 := Lib.hid (HK1.out.trans' hk2)
  have hcv : (convert 25 9 (.slice (some ⟨w2.heap.size, 0, none⟩) 1 1)).run Tryd.prog (w2.alloc (.cells #[.int .u8 (32 : Int)] 5)) = .ok (.string (strB [c])) (w2.alloc (.cells #[.int .u8 (32 : Int)] 5)) := (Reads.bytes w2 5 [c] #[.int .u8 (32 : Int)] (by
    have := HX.out
    simp [b8s, B8, this]) (0, 0)).string 25 5 9 Tryd.underlying25 Tryd.underlying5 Tryd.underlying9 1
  have e1 : strB code ++ strB [c] = strB (code ++ [c]) := strB_app code [c]
  have e2 : strB (code ++ [c]) ++ strB t = strB (code ++ c :: t) := by rw [strB_app]; simp
  have e3 : (⟨#[45, 69, 82, 82]⟩ : ByteArray) ++ strB [c] = strB ([45, 69, 82, 82] ++ [c]) := strB_app [45, 69, 82, 82] [c]
  have e4 : strB ([45, 69, 82, 82] ++ [c]) ++ strB t = strB ([45, 69, 82, 82] ++ c :: t) := by rw [strB_app]; simp
  have l1 : (code ++ c :: t).length ≤ 300 := by simp; omega
  have l2 : ([45, 69, 82, 82] ++ c :: t).length ≤ 300 := by simp; omega
  obtain ⟨s1, hs1⟩ : ∃ s, code ++ c :: t = s := ⟨_, rfl⟩
  obtain ⟨s2, hs2⟩ : ∃ s, [45, 69, 82, 82] ++ c :: t = s := ⟨_, rfl⟩
  obtain ⟨u1, hu1⟩ : ∃ s, code ++ [c] = s := ⟨_, rfl⟩
  obtain ⟨u2, hu2⟩ : ∃ s, [45, 69, 82, 82] ++ [c] = s := ⟨_, rfl⟩
  have lu1 : u1.length ≤ 4 := by rw [← hu1]; simp; omega
  have lu2 : u2.length ≤ 5 := by rw [← hu2]; simp
  rw [hs1] at e2 l1 E3
  rw [hs2] at e4 l2 E2
  rw [hu1] at e1 e2
  rw [hu2] at e3 e4
  have z1 : ¬ (9223372036854775807 < code.length + 1) := by omega
  have z2 : ¬ (9223372036854775807 < u1.length + t.length) := by omega
  have z3 : ¬ (9223372036854775807 < u2.length + t.length) := by omega
  clear hk2 hcode hcl hnc hs1 hs2 hu1 hu2
  go_wp2_with fail
  refine (status_at _ 3 s1 _ _ (by omega) (hm.kept0 (HK2.out.alloc _)) E3.out (stR_mk _ _ _)).mono ?_
  rintro en w3 ⟨rfl, hk3⟩
  have HK3 := Lib.hid ((HK2.out.alloc _).trans' hk3)
  clear hk3
  go_wp2_with fail
  refine (status_at _ 2 s2 _ _ (by omega) (hm.kept0 (HK3.out.alloc _)) E2.out (stR_mk _ _ _)).mono ?_
  rintro en w4 ⟨rfl, hk4⟩
  have HK4 := Lib.hid ((HK3.out.alloc _).trans' hk4)
  have HA4 := Lib.hid ((Blk.new w3 27 #[.string (strB code), .bool false, .string (strB t)]).kept0 hk4)
  obtain ⟨a0, a1, a2, _, _, _⟩ := HA4.out.cells3
  have la := HA4.out.lt
  clear hk4
  go_wp2_with fail
  go_ret
  exact ⟨rfl, (HK4.out.alloc _).alloc _⟩
set_option maxHeartbeats 4000000 in
set_option maxRecDepth 100000 in
theorem texts_no (w : World) (n : Int) (c : UInt8) (x : Nat) (hx : c.toNat = x) (t0 : List UInt8) (ht : t0.length ≤ 140737488351232) (hm : MaxI w) (hc1 : ¬ x = 45) (hc2 : ¬ x = 32) :
    Calls Tryd.prog 3 #[.int .i64 n, .int .u8 (x : Int), .string (strB t0)] w fun en w' => en = .returned (.bool true) ∧ Kept w w' NoB := by
  obtain ⟨k, hk, hkb⟩ := and1023 n
  have hk1 : (0 : Int) ≤ (k : Int) := by omega
  obtain ⟨q, hq⟩ : ∃ q, k % 500 = q := ⟨_, rfl⟩
  have hql : q < 500 := by omega
  have hqI : (k : Int) % 500 = (q : Int) := by omega
  have HN := Lib.hid (dig3_num ⟨q, hql⟩)
  have HX := Lib.hid hx
  have h1 : c ≠ 45 := fun e => hc1 (by rw [← hx, e]; rfl)
  have h2 : c ≠ 32 := fun e => hc2 (by rw [← hx, e]; rfl)
  have R3 : Hid (∀ (code t : List UInt8), code.length = 3 → numL code = true → statusL 3 (code ++ c :: t) = none) := fun code t h3 h4 => by rw [code_status (.inr rfl) h3 h4, if_neg h1, if_neg h2]
  have R2 : Hid (∀ (t : List UInt8), statusL 2 ([45, 69, 82, 82] ++ c :: t) = none) := fun t => by rw [err_status, if_neg h2]
  have b45 : ((x : Int) == 45) = false := by rw [beq_eq_false_iff_ne]; omega
  have b32 : ((x : Int) == 32) = false := by rw [beq_eq_false_iff_ne]; omega
  clear h1 h2
  clear hq hx
  go_enter Tryd.func3, Tryd.ntmps3
  go_wp2_with fail
  refine (shown_calls w hm).mono ?_
  rintro en w1 ⟨rfl, hk1⟩
  have HK1 := Lib.hid hk1
  clear hk1
  go_wp2_with fail
  refine (short_calls w1 t0 ht).mono ?_
  rintro en wx ⟨rfl, rfl⟩
  obtain ⟨t, hte⟩ : ∃ s, t0.take 200 = s := ⟨_, rfl⟩
  have htl : t.length ≤ 200 := by rw [← hte, List.length_take]; omega
  rw [hte]
  clear hte
  go_wp2_with fail
  refine (digits_calls wx (100 + q) (by omega) (by omega)).mono ?_
  obtain ⟨code, hcode⟩ : ∃ l, dig3 (100 + q) = l := ⟨_, rfl⟩
  have hcl : code.length = 3 := by rw [← hcode]; rfl
  have hnc : numL code = true := by rw [← hcode]; exact HN.out
  have E3 := Lib.hid (R3.out code t hcl hnc)
  have E2 := Lib.hid (R2.out t)
  have hcl3 : code.length ≤ 3 := by omega
  rw [hcode]
  rintro en w2 ⟨rfl, hk2⟩
  have HK2 := Lib.hid (HK1.out.trans' hk2)
  have hcv : (convert 25 9 (.slice (some ⟨w2.heap.size, 0, none⟩) 1 1)).run Tryd.prog (w2.alloc (.cells #[.int .u8 (x : Int)] 5)) = .ok (.string (strB [c])) (w2.alloc (.cells #[.int .u8 (x : Int)] 5)) := (Reads.bytes w2 5 [c] #[.int .u8 (x : Int)] (by
    have := HX.out
    simp [b8s, B8, this]) (0, 0)).string 25 5 9 Tryd.underlying25 Tryd.underlying5 Tryd.underlying9 1
  have e1 : strB code ++ strB [c] = strB (code ++ [c]) := strB_app code [c]
  have e2 : strB (code ++ [c]) ++ strB t = strB (code ++ c :: t) := by rw [strB_app]; simp
  have e3 : (⟨#[45, 69, 82, 82]⟩ : ByteArray) ++ strB [c] = strB ([45, 69, 82, 82] ++ [c]) := strB_app [45, 69, 82, 82] [c]
  have e4 : strB ([45, 69, 82, 82] ++ [c]) ++ strB t = strB ([45, 69, 82, 82] ++ c :: t) := by rw [strB_app]; simp
  have l1 : (code ++ c :: t).length ≤ 300 := by simp; omega
  have l2 : ([45, 69, 82, 82] ++ c :: t).length ≤ 300 := by simp; omega
  obtain ⟨s1, hs1⟩ : ∃ s, code ++ c :: t = s := ⟨_, rfl⟩
  obtain ⟨s2, hs2⟩ : ∃ s, [45, 69, 82, 82] ++ c :: t = s := ⟨_, rfl⟩
  obtain ⟨u1, hu1⟩ : ∃ s, code ++ [c] = s := ⟨_, rfl⟩
  obtain ⟨u2, hu2⟩ : ∃ s, [45, 69, 82, 82] ++ [c] = s := ⟨_, rfl⟩
  have lu1 : u1.length ≤ 4 := by rw [← hu1]; simp; omega
  have lu2 : u2.length ≤ 5 := by rw [← hu2]; simp
  rw [hs1] at e2 l1 E3
  rw [hs2] at e4 l2 E2
  rw [hu1] at e1 e2
  rw [hu2] at e3 e4
  have z1 : ¬ (9223372036854775807 < code.length + 1) := by omega
  have z2 : ¬ (9223372036854775807 < u1.length + t.length) := by omega
  have z3 : ¬ (9223372036854775807 < u2.length + t.length) := by omega
  clear hk2 hcode hcl hnc hs1 hs2 hu1 hu2
  go_wp2_with fail
  refine (status_at _ 3 s1 _ _ (by omega) (hm.kept0 (HK2.out.alloc _)) E3.out stR_none).mono ?_
  rintro en w3 ⟨rfl, hk3⟩
  have HK3 := Lib.hid ((HK2.out.alloc _).trans' hk3)
  clear hk3
  go_wp2_with fail
  refine (status_at _ 2 s2 _ _ (by omega) (hm.kept0 (HK3.out.alloc _)) E2.out stR_none).mono ?_
  rintro en w4 ⟨rfl, hk4⟩
  have HK4 := Lib.hid ((HK3.out.alloc _).trans' hk4)
  have HA4 := Lib.hid ((Blk.new w3 27 #[.string ByteArray.empty, .bool false, .string ByteArray.empty]).kept0 hk4)
  obtain ⟨a0, a1, a2, _, _, _⟩ := HA4.out.cells3
  have la := HA4.out.lt
  clear hk4
  go_wp2_with fail
  go_ret
  exact ⟨rfl, (HK4.out.alloc _).alloc _⟩
theorem lineTexts_walk (W : World) (a0 a1 : Int) (a2 : ByteArray) (w0 : (Lit.int .i64 a0).wf = true) (w1 : (Lit.int .u8 a1).wf = true) (w2 : a2.size ≤ 140737488351232) (hsh : W.ShapedOpen Tryd.prog) :
    Calls Tryd.prog 3 #[.int .i64 a0, .int .u8 a1, .string a2] W fun en w' => en = .returned (.bool true) ∧ Below W.heap.size W w' := by
  obtain ⟨t, rfl, ht⟩ := strB_of a2
  obtain ⟨x, rfl, hx⟩ : ∃ x : Nat, a1 = (x : Int) ∧ x < 256 := by
    have h := w1
    simp only [Lit.wf, Bool.and_eq_true, decide_eq_true_eq] at h
    have e0 : IntKind.u8.min = 0 := rfl
    have e1 : IntKind.u8.max = 255 := rfl
    exact ⟨a1.toNat, by omega, by omega⟩
  have hc : (UInt8.ofNat x).toNat = x := by simp; omega
  have hm := MaxI.of_shape hsh
  by_cases h45 : x = 45
  · exact (texts_h45 W a0 (UInt8.ofNat x) x hc t (by omega) hm h45).mono fun _ _ ⟨he, hk⟩ => ⟨he, hk.below⟩
  · by_cases h32 : x = 32
    · exact (texts_h32 W a0 (UInt8.ofNat x) x hc t (by omega) hm h32).mono fun _ _ ⟨he, hk⟩ => ⟨he, hk.below⟩
    · exact (texts_no W a0 (UInt8.ofNat x) x hc t (by omega) hm h45 h32).mono fun _ _ ⟨he, hk⟩ => ⟨he, hk.below⟩

set_option maxHeartbeats 8000000 in
set_option maxRecDepth 100000 in
theorem back_true (w : World) (n : Int) (t0 : List UInt8) (ht : t0.length ≤ 140737488351232) (hm : MaxI w) :
    Calls Tryd.prog 6 #[.int .i64 n, .string (strB t0), .bool true] w fun en w' => en = .returned (.bool true) ∧ Kept w w' NoB := by
  obtain ⟨k, hk, hkb⟩ := and1023 n
  have hk1 : (0 : Int) ≤ (k : Int) := by omega
  obtain ⟨q, hq⟩ : ∃ q, k % 500 = q := ⟨_, rfl⟩
  have hql : q < 500 := by omega
  have hqI : (k : Int) % 500 = (q : Int) := by omega
  have HN := Lib.hid (dig3_num ⟨q, hql⟩)
  clear hq
  go_enter Tryd.func6, Tryd.ntmps6
  go_wp2_with fail
  refine (shown_calls w hm).mono ?_
  rintro en w1 ⟨rfl, hk1⟩
  have HK1 := Lib.hid hk1
  clear hk1
  go_wp2_with fail
  refine (short_calls w1 t0 ht).mono ?_
  rintro en wx ⟨rfl, rfl⟩
  obtain ⟨t, hte⟩ : ∃ s, t0.take 200 = s := ⟨_, rfl⟩
  have htl : t.length ≤ 200 := by rw [← hte, List.length_take]; omega
  rw [hte]
  clear hte
  go_wp2_with fail
  refine (digits_calls wx (100 + q) (by omega) (by omega)).mono ?_
  obtain ⟨a, b, c, hcode⟩ : ∃ a b c, dig3 (100 + q) = [a, b, c] := ⟨_, _, _, rfl⟩
  have hnc : numL [a, b, c] = true := by rw [← hcode]; exact HN.out
  have h1 := code_status (.inl rfl) (show [a, b, c].length = 3 from rfl) hnc 45 t
  have h3 := code_status (.inr rfl) (show [a, b, c].length = 3 from rfl) hnc 45 t
  rw [if_pos rfl] at h1 h3
  have F1 := Lib.hid h1
  have F3 := Lib.hid h3
  have F2 := Lib.hid (code_status2 (show [a, b, c].length = 3 from rfl) hnc (45 :: t))
  have F0 := Lib.hid (code_status0 (show [a, b, c].length = 3 from rfl) hnc)
  have G2 := Lib.hid (ok_status t)
  have G1 := Lib.hid (ok_status1 t)
  have G3 := Lib.hid (plus_status t)
  have D1 := Lib.hid (num_codes (p := 1) (.inl rfl) hnc (show [a, b, c].length ≤ 3 by simp))
  have n44 := num_no44 hnc
  have M1 := Lib.hid (match_self (c := [a, b, c]) n44 (by simp) (by simp [List.isPrefixOf]))
  have M2 : Hid (matchL [a] [a, b, c] = true) := match_self (fun e => n44 (by simp at e ⊢; exact .inl e)) (by simp) (by simp [List.isPrefixOf])
  have M3 : Hid (matchL ([57] ++ 44 :: [a, b]) [a, b, c] = true) := by
    have h : matchL [a, b] [a, b, c] = true := match_self (fun e => n44 (by simp at e ⊢; rcases e with e | e <;> simp [e])) (by simp) (by simp [List.isPrefixOf])
    show matchL ([57] ++ 44 :: [a, b]) [a, b, c] = true
    rw [match_app, h, Bool.or_true]
  rw [hcode]
  rintro en w2 ⟨rfl, hk2⟩
  have HK2 := Lib.hid (HK1.out.trans' hk2)
  have e1 : strB [a, b, c] ++ (⟨#[45]⟩ : ByteArray) = strB [a, b, c, 45] := strB_app [a, b, c] [45]
  have e2 : strB [a, b, c, 45] ++ strB t = strB ([a, b, c] ++ 45 :: t) := by rw [strB_app]; simp
  have e3 : (⟨#[43, 79, 75, 32]⟩ : ByteArray) ++ strB t = strB ([43, 79, 75, 32] ++ t) := strB_app [43, 79, 75, 32] t
  have e4 : (⟨#[43, 32]⟩ : ByteArray) ++ strB t = strB ([43, 32] ++ t) := strB_app [43, 32] t
  have e5 : (strB [a, b, c]).extract 0 1 = strB [a] := by have := strB_cut [a, b, c] 0 1; simpa using this
  have e6 : (strB [a, b, c]).extract 0 2 = strB [a, b] := by have := strB_cut [a, b, c] 0 2; simpa using this
  have e7 : (⟨#[57, 44]⟩ : ByteArray) ++ strB [a, b] = strB ([57] ++ 44 :: [a, b]) := strB_app [57, 44] [a, b]
  have l1 : ([a, b, c] ++ 45 :: t).length ≤ 300 := by simp; omega
  have l2 : ([43, 79, 75, 32] ++ t).length ≤ 300 := by simp; omega
  have l3 : ([43, 32] ++ t).length ≤ 300 := by simp; omega
  obtain ⟨s1, hs1⟩ : ∃ s, [a, b, c] ++ 45 :: t = s := ⟨_, rfl⟩
  obtain ⟨s2, hs2⟩ : ∃ s, [43, 79, 75, 32] ++ t = s := ⟨_, rfl⟩
  obtain ⟨s3, hs3⟩ : ∃ s, [43, 32] ++ t = s := ⟨_, rfl⟩
  rw [hs1] at e2 l1 F1 F2 F3
  rw [hs2] at e3 l2 G1 G2
  rw [hs3] at e4 l3 G3
  have z1 : ¬ (9223372036854775807 < 4 + t.length) := by omega
  have z2 : ¬ (9223372036854775807 < 2 + t.length) := by omega
  clear hk2 hcode hnc h1 h3 n44 hs1 hs2 hs3
  go_wp2_with fail
  refine (status_at _ 1 s1 _ _ (by omega) (hm.kept0 HK2.out) F1.out (stR_mk _ _ _)).mono ?_
  rintro en w3 ⟨rfl, hk3⟩
  have HK3 := Lib.hid (HK2.out.trans' hk3)
  clear hk3
  go_wp2_with fail
  refine (status_at _ 3 s1 _ _ (by omega) (hm.kept0 (HK3.out.alloc _)) F3.out (stR_mk _ _ _)).mono ?_
  rintro en w4 ⟨rfl, hk4⟩
  have HK4 := Lib.hid ((HK3.out.alloc _).trans' hk4)
  have Hxb4 := Lib.hid ((Blk.new w3 27 #[.string (strB [a, b, c]), .bool true, .string (strB t)]).kept0 hk4)
  clear hk4
  go_wp2_with fail
  refine (status_at _ 2 s1 _ _ (by omega) (hm.kept0 (HK4.out.alloc _)) F2.out stR_none).mono ?_
  rintro en w5 ⟨rfl, hk5⟩
  have HK5 := Lib.hid ((HK4.out.alloc _).trans' hk5)
  have Hxb5 := Lib.hid ((Hxb4.out.alloc _).kept0 hk5)
  have Hyb5 := Lib.hid ((Blk.new w4 27 #[.string (strB [a, b, c]), .bool true, .string (strB t)]).kept0 hk5)
  clear hk5
  go_wp2_with fail
  refine (status_at _ 1 [a, b, c] _ _ (by simp) (hm.kept0 (HK5.out.alloc _)) F0.out (stR_mk _ _ _)).mono ?_
  rintro en w6 ⟨rfl, hk6⟩
  have HK6 := Lib.hid ((HK5.out.alloc _).trans' hk6)
  have Hxb6 := Lib.hid ((Hxb5.out.alloc _).kept0 hk6)
  have Hyb6 := Lib.hid ((Hyb5.out.alloc _).kept0 hk6)
  clear hk6
  go_wp2_with fail
  refine (status_at _ 2 s2 _ _ (by omega) (hm.kept0 (HK6.out.alloc _)) G2.out (stR_mk _ _ _)).mono ?_
  rintro en w7 ⟨rfl, hk7⟩
  have HK7 := Lib.hid ((HK6.out.alloc _).trans' hk7)
  have Hxb7 := Lib.hid ((Hxb6.out.alloc _).kept0 hk7)
  have Hyb7 := Lib.hid ((Hyb6.out.alloc _).kept0 hk7)
  have Hzb7 := Lib.hid ((Blk.new w6 27 #[.string (strB [a, b, c]), .bool false, .string (strB [])]).kept0 hk7)
  clear hk7
  go_wp2_with fail
  refine (status_at _ 1 s2 _ _ (by omega) (hm.kept0 (HK7.out.alloc _)) G1.out stR_none).mono ?_
  rintro en w8 ⟨rfl, hk8⟩
  have HK8 := Lib.hid ((HK7.out.alloc _).trans' hk8)
  have Hxb8 := Lib.hid ((Hxb7.out.alloc _).kept0 hk8)
  have Hyb8 := Lib.hid ((Hyb7.out.alloc _).kept0 hk8)
  have Hzb8 := Lib.hid ((Hzb7.out.alloc _).kept0 hk8)
  have Hub8 := Lib.hid ((Blk.new w7 27 #[.string (strB [43]), .bool false, .string (strB t)]).kept0 hk8)
  clear hk8
  go_wp2_with fail
  refine (status_at _ 2 s3 _ _ (by omega) (hm.kept0 (HK8.out.alloc _)) G3.out (stR_mk _ _ _)).mono ?_
  rintro en w9 ⟨rfl, hk9⟩
  have HK9 := Lib.hid ((HK8.out.alloc _).trans' hk9)
  have Hxb9 := Lib.hid ((Hxb8.out.alloc _).kept0 hk9)
  have Hyb9 := Lib.hid ((Hyb8.out.alloc _).kept0 hk9)
  have Hzb9 := Lib.hid ((Hzb8.out.alloc _).kept0 hk9)
  have Hub9 := Lib.hid ((Hub8.out.alloc _).kept0 hk9)
  clear hk9
  obtain ⟨xb0, xb1, xb2, _, _, _⟩ := Hxb9.out.cells3
  have lxb := Hxb9.out.lt
  obtain ⟨yb0, yb1, yb2, _, _, _⟩ := Hyb9.out.cells3
  have lyb := Hyb9.out.lt
  obtain ⟨zb0, zb1, zb2, _, _, _⟩ := Hzb9.out.cells3
  have lzb := Hzb9.out.lt
  have lzb1 : w6.heap.size < w9.heap.size + 1 := by omega
  have nzb1 : ¬ w6.heap.size = w9.heap.size + 1 := by omega
  have lzb2 : w6.heap.size < w9.heap.size + 1 + 1 := by omega
  have nzb2 : ¬ w6.heap.size = w9.heap.size + 1 + 1 := by omega
  have lzb3 : w6.heap.size < w9.heap.size + 1 + 1 + 1 := by omega
  have nzb3 : ¬ w6.heap.size = w9.heap.size + 1 + 1 + 1 := by omega
  have lzb4 : w6.heap.size < w9.heap.size + 1 + 1 + 1 + 1 := by omega
  have nzb4 : ¬ w6.heap.size = w9.heap.size + 1 + 1 + 1 + 1 := by omega
  obtain ⟨ub0, ub1, ub2, _, _, _⟩ := Hub9.out.cells3
  have lub := Hub9.out.lt
  have lub1 : w7.heap.size < w9.heap.size + 1 := by omega
  have nub1 : ¬ w7.heap.size = w9.heap.size + 1 := by omega
  have lub2 : w7.heap.size < w9.heap.size + 1 + 1 := by omega
  have nub2 : ¬ w7.heap.size = w9.heap.size + 1 + 1 := by omega
  have lub3 : w7.heap.size < w9.heap.size + 1 + 1 + 1 := by omega
  have nub3 : ¬ w7.heap.size = w9.heap.size + 1 + 1 + 1 := by omega
  have lub4 : w7.heap.size < w9.heap.size + 1 + 1 + 1 + 1 := by omega
  have nub4 : ¬ w7.heap.size = w9.heap.size + 1 + 1 + 1 + 1 := by omega
  go_wp2_with fail
  refine (codes_at _ 1 [a, b, c] _ (by simp) (hm.kept0 ((((HK9.out.alloc _).alloc _).alloc _).alloc _ |>.alloc _)) D1.out).mono ?_
  rintro en wa ⟨rfl, hka⟩
  have HKa := Lib.hid ((((((HK9.out.alloc _).alloc _).alloc _).alloc _).alloc _).trans' hka)
  clear hka xb0 xb1 xb2 lxb yb0 yb1 yb2 lyb zb0 zb1 zb2 lzb ub0 ub1 ub2 lub lzb1 nzb1 lzb2 nzb2 lzb3 nzb3 lzb4 nzb4 lub1 nub1 lub2 nub2 lub3 nub3 lub4 nub4
  go_wp2_with fail
  refine (match_at _ [a, b, c] [a, b, c] _ (by simp) (hm.kept0 HKa.out) M1.out).mono ?_
  rintro en wb ⟨rfl, hkb'⟩
  have HKb := Lib.hid (HKa.out.trans' hkb')
  clear hkb'
  go_wp2_with fail
  refine (match_at _ [a] [a, b, c] _ (by simp) (hm.kept0 HKb.out) M2.out).mono ?_
  rintro en wc ⟨rfl, hkc⟩
  have HKc := Lib.hid (HKb.out.trans' hkc)
  clear hkc
  go_wp2_with fail
  refine (match_at _ ([57] ++ 44 :: [a, b]) [a, b, c] _ (by simp) (hm.kept0 HKc.out) M3.out).mono ?_
  rintro en wd ⟨rfl, hkd⟩
  have HKd := Lib.hid (HKc.out.trans' hkd)
  clear hkd
  go_wp2_with fail
  go_ret
  exact ⟨rfl, HKd.out⟩
set_option maxHeartbeats 8000000 in
set_option maxRecDepth 100000 in
theorem back_false (w : World) (n : Int) (t0 : List UInt8) (ht : t0.length ≤ 140737488351232) (hm : MaxI w) :
    Calls Tryd.prog 6 #[.int .i64 n, .string (strB t0), .bool false] w fun en w' => en = .returned (.bool true) ∧ Kept w w' NoB := by
  obtain ⟨k, hk, hkb⟩ := and1023 n
  have hk1 : (0 : Int) ≤ (k : Int) := by omega
  obtain ⟨q, hq⟩ : ∃ q, k % 500 = q := ⟨_, rfl⟩
  have hql : q < 500 := by omega
  have hqI : (k : Int) % 500 = (q : Int) := by omega
  have HN := Lib.hid (dig3_num ⟨q, hql⟩)
  clear hq
  go_enter Tryd.func6, Tryd.ntmps6
  go_wp2_with fail
  refine (shown_calls w hm).mono ?_
  rintro en w1 ⟨rfl, hk1⟩
  have HK1 := Lib.hid hk1
  clear hk1
  go_wp2_with fail
  refine (short_calls w1 t0 ht).mono ?_
  rintro en wx ⟨rfl, rfl⟩
  obtain ⟨t, hte⟩ : ∃ s, t0.take 200 = s := ⟨_, rfl⟩
  have htl : t.length ≤ 200 := by rw [← hte, List.length_take]; omega
  rw [hte]
  clear hte
  go_wp2_with fail
  refine (digits_calls wx (100 + q) (by omega) (by omega)).mono ?_
  obtain ⟨a, b, c, hcode⟩ : ∃ a b c, dig3 (100 + q) = [a, b, c] := ⟨_, _, _, rfl⟩
  have hnc : numL [a, b, c] = true := by rw [← hcode]; exact HN.out
  have h1 := code_status (.inl rfl) (show [a, b, c].length = 3 from rfl) hnc 32 t
  have h3 := code_status (.inr rfl) (show [a, b, c].length = 3 from rfl) hnc 32 t
  rw [if_neg (by decide), if_pos rfl] at h1 h3
  have F1 := Lib.hid h1
  have F3 := Lib.hid h3
  have F2 := Lib.hid (code_status2 (show [a, b, c].length = 3 from rfl) hnc (32 :: t))
  have F0 := Lib.hid (code_status0 (show [a, b, c].length = 3 from rfl) hnc)
  have G2 := Lib.hid (ok_status t)
  have G1 := Lib.hid (ok_status1 t)
  have G3 := Lib.hid (plus_status t)
  have D1 := Lib.hid (num_codes (p := 1) (.inl rfl) hnc (show [a, b, c].length ≤ 3 by simp))
  have n44 := num_no44 hnc
  have M1 := Lib.hid (match_self (c := [a, b, c]) n44 (by simp) (by simp [List.isPrefixOf]))
  have M2 : Hid (matchL [a] [a, b, c] = true) := match_self (fun e => n44 (by simp at e ⊢; exact .inl e)) (by simp) (by simp [List.isPrefixOf])
  have M3 : Hid (matchL ([57] ++ 44 :: [a, b]) [a, b, c] = true) := by
    have h : matchL [a, b] [a, b, c] = true := match_self (fun e => n44 (by simp at e ⊢; rcases e with e | e <;> simp [e])) (by simp) (by simp [List.isPrefixOf])
    show matchL ([57] ++ 44 :: [a, b]) [a, b, c] = true
    rw [match_app, h, Bool.or_true]
  rw [hcode]
  rintro en w2 ⟨rfl, hk2⟩
  have HK2 := Lib.hid (HK1.out.trans' hk2)
  have e1 : strB [a, b, c] ++ (⟨#[32]⟩ : ByteArray) = strB [a, b, c, 32] := strB_app [a, b, c] [32]
  have e2 : strB [a, b, c, 32] ++ strB t = strB ([a, b, c] ++ 32 :: t) := by rw [strB_app]; simp
  have e3 : (⟨#[43, 79, 75, 32]⟩ : ByteArray) ++ strB t = strB ([43, 79, 75, 32] ++ t) := strB_app [43, 79, 75, 32] t
  have e4 : (⟨#[43, 32]⟩ : ByteArray) ++ strB t = strB ([43, 32] ++ t) := strB_app [43, 32] t
  have e5 : (strB [a, b, c]).extract 0 1 = strB [a] := by have := strB_cut [a, b, c] 0 1; simpa using this
  have e6 : (strB [a, b, c]).extract 0 2 = strB [a, b] := by have := strB_cut [a, b, c] 0 2; simpa using this
  have e7 : (⟨#[57, 44]⟩ : ByteArray) ++ strB [a, b] = strB ([57] ++ 44 :: [a, b]) := strB_app [57, 44] [a, b]
  have l1 : ([a, b, c] ++ 32 :: t).length ≤ 300 := by simp; omega
  have l2 : ([43, 79, 75, 32] ++ t).length ≤ 300 := by simp; omega
  have l3 : ([43, 32] ++ t).length ≤ 300 := by simp; omega
  obtain ⟨s1, hs1⟩ : ∃ s, [a, b, c] ++ 32 :: t = s := ⟨_, rfl⟩
  obtain ⟨s2, hs2⟩ : ∃ s, [43, 79, 75, 32] ++ t = s := ⟨_, rfl⟩
  obtain ⟨s3, hs3⟩ : ∃ s, [43, 32] ++ t = s := ⟨_, rfl⟩
  rw [hs1] at e2 l1 F1 F2 F3
  rw [hs2] at e3 l2 G1 G2
  rw [hs3] at e4 l3 G3
  have z1 : ¬ (9223372036854775807 < 4 + t.length) := by omega
  have z2 : ¬ (9223372036854775807 < 2 + t.length) := by omega
  clear hk2 hcode hnc h1 h3 n44 hs1 hs2 hs3
  go_wp2_with fail
  refine (status_at _ 1 s1 _ _ (by omega) (hm.kept0 HK2.out) F1.out (stR_mk _ _ _)).mono ?_
  rintro en w3 ⟨rfl, hk3⟩
  have HK3 := Lib.hid (HK2.out.trans' hk3)
  clear hk3
  go_wp2_with fail
  refine (status_at _ 3 s1 _ _ (by omega) (hm.kept0 (HK3.out.alloc _)) F3.out (stR_mk _ _ _)).mono ?_
  rintro en w4 ⟨rfl, hk4⟩
  have HK4 := Lib.hid ((HK3.out.alloc _).trans' hk4)
  have Hxb4 := Lib.hid ((Blk.new w3 27 #[.string (strB [a, b, c]), .bool false, .string (strB t)]).kept0 hk4)
  clear hk4
  go_wp2_with fail
  refine (status_at _ 2 s1 _ _ (by omega) (hm.kept0 (HK4.out.alloc _)) F2.out stR_none).mono ?_
  rintro en w5 ⟨rfl, hk5⟩
  have HK5 := Lib.hid ((HK4.out.alloc _).trans' hk5)
  have Hxb5 := Lib.hid ((Hxb4.out.alloc _).kept0 hk5)
  have Hyb5 := Lib.hid ((Blk.new w4 27 #[.string (strB [a, b, c]), .bool false, .string (strB t)]).kept0 hk5)
  clear hk5
  go_wp2_with fail
  refine (status_at _ 1 [a, b, c] _ _ (by simp) (hm.kept0 (HK5.out.alloc _)) F0.out (stR_mk _ _ _)).mono ?_
  rintro en w6 ⟨rfl, hk6⟩
  have HK6 := Lib.hid ((HK5.out.alloc _).trans' hk6)
  have Hxb6 := Lib.hid ((Hxb5.out.alloc _).kept0 hk6)
  have Hyb6 := Lib.hid ((Hyb5.out.alloc _).kept0 hk6)
  clear hk6
  go_wp2_with fail
  refine (status_at _ 2 s2 _ _ (by omega) (hm.kept0 (HK6.out.alloc _)) G2.out (stR_mk _ _ _)).mono ?_
  rintro en w7 ⟨rfl, hk7⟩
  have HK7 := Lib.hid ((HK6.out.alloc _).trans' hk7)
  have Hxb7 := Lib.hid ((Hxb6.out.alloc _).kept0 hk7)
  have Hyb7 := Lib.hid ((Hyb6.out.alloc _).kept0 hk7)
  have Hzb7 := Lib.hid ((Blk.new w6 27 #[.string (strB [a, b, c]), .bool false, .string (strB [])]).kept0 hk7)
  clear hk7
  go_wp2_with fail
  refine (status_at _ 1 s2 _ _ (by omega) (hm.kept0 (HK7.out.alloc _)) G1.out stR_none).mono ?_
  rintro en w8 ⟨rfl, hk8⟩
  have HK8 := Lib.hid ((HK7.out.alloc _).trans' hk8)
  have Hxb8 := Lib.hid ((Hxb7.out.alloc _).kept0 hk8)
  have Hyb8 := Lib.hid ((Hyb7.out.alloc _).kept0 hk8)
  have Hzb8 := Lib.hid ((Hzb7.out.alloc _).kept0 hk8)
  have Hub8 := Lib.hid ((Blk.new w7 27 #[.string (strB [43]), .bool false, .string (strB t)]).kept0 hk8)
  clear hk8
  go_wp2_with fail
  refine (status_at _ 2 s3 _ _ (by omega) (hm.kept0 (HK8.out.alloc _)) G3.out (stR_mk _ _ _)).mono ?_
  rintro en w9 ⟨rfl, hk9⟩
  have HK9 := Lib.hid ((HK8.out.alloc _).trans' hk9)
  have Hxb9 := Lib.hid ((Hxb8.out.alloc _).kept0 hk9)
  have Hyb9 := Lib.hid ((Hyb8.out.alloc _).kept0 hk9)
  have Hzb9 := Lib.hid ((Hzb8.out.alloc _).kept0 hk9)
  have Hub9 := Lib.hid ((Hub8.out.alloc _).kept0 hk9)
  clear hk9
  obtain ⟨xb0, xb1, xb2, _, _, _⟩ := Hxb9.out.cells3
  have lxb := Hxb9.out.lt
  obtain ⟨yb0, yb1, yb2, _, _, _⟩ := Hyb9.out.cells3
  have lyb := Hyb9.out.lt
  obtain ⟨zb0, zb1, zb2, _, _, _⟩ := Hzb9.out.cells3
  have lzb := Hzb9.out.lt
  have lzb1 : w6.heap.size < w9.heap.size + 1 := by omega
  have nzb1 : ¬ w6.heap.size = w9.heap.size + 1 := by omega
  have lzb2 : w6.heap.size < w9.heap.size + 1 + 1 := by omega
  have nzb2 : ¬ w6.heap.size = w9.heap.size + 1 + 1 := by omega
  have lzb3 : w6.heap.size < w9.heap.size + 1 + 1 + 1 := by omega
  have nzb3 : ¬ w6.heap.size = w9.heap.size + 1 + 1 + 1 := by omega
  have lzb4 : w6.heap.size < w9.heap.size + 1 + 1 + 1 + 1 := by omega
  have nzb4 : ¬ w6.heap.size = w9.heap.size + 1 + 1 + 1 + 1 := by omega
  obtain ⟨ub0, ub1, ub2, _, _, _⟩ := Hub9.out.cells3
  have lub := Hub9.out.lt
  have lub1 : w7.heap.size < w9.heap.size + 1 := by omega
  have nub1 : ¬ w7.heap.size = w9.heap.size + 1 := by omega
  have lub2 : w7.heap.size < w9.heap.size + 1 + 1 := by omega
  have nub2 : ¬ w7.heap.size = w9.heap.size + 1 + 1 := by omega
  have lub3 : w7.heap.size < w9.heap.size + 1 + 1 + 1 := by omega
  have nub3 : ¬ w7.heap.size = w9.heap.size + 1 + 1 + 1 := by omega
  have lub4 : w7.heap.size < w9.heap.size + 1 + 1 + 1 + 1 := by omega
  have nub4 : ¬ w7.heap.size = w9.heap.size + 1 + 1 + 1 + 1 := by omega
  go_wp2_with fail
  refine (codes_at _ 1 [a, b, c] _ (by simp) (hm.kept0 ((((HK9.out.alloc _).alloc _).alloc _).alloc _ |>.alloc _)) D1.out).mono ?_
  rintro en wa ⟨rfl, hka⟩
  have HKa := Lib.hid ((((((HK9.out.alloc _).alloc _).alloc _).alloc _).alloc _).trans' hka)
  clear hka xb0 xb1 xb2 lxb yb0 yb1 yb2 lyb zb0 zb1 zb2 lzb ub0 ub1 ub2 lub lzb1 nzb1 lzb2 nzb2 lzb3 nzb3 lzb4 nzb4 lub1 nub1 lub2 nub2 lub3 nub3 lub4 nub4
  go_wp2_with fail
  refine (match_at _ [a, b, c] [a, b, c] _ (by simp) (hm.kept0 HKa.out) M1.out).mono ?_
  rintro en wb ⟨rfl, hkb'⟩
  have HKb := Lib.hid (HKa.out.trans' hkb')
  clear hkb'
  go_wp2_with fail
  refine (match_at _ [a] [a, b, c] _ (by simp) (hm.kept0 HKb.out) M2.out).mono ?_
  rintro en wc ⟨rfl, hkc⟩
  have HKc := Lib.hid (HKb.out.trans' hkc)
  clear hkc
  go_wp2_with fail
  refine (match_at _ ([57] ++ 44 :: [a, b]) [a, b, c] _ (by simp) (hm.kept0 HKc.out) M3.out).mono ?_
  rintro en wd ⟨rfl, hkd⟩
  have HKd := Lib.hid (HKc.out.trans' hkd)
  clear hkd
  go_wp2_with fail
  go_ret
  exact ⟨rfl, HKd.out⟩
theorem lineBack_walk (W : World) (a0 : Int) (a1 : ByteArray) (a2 : Bool) (w0 : (Lit.int .i64 a0).wf = true) (w1 : a1.size ≤ 140737488351232) (hsh : W.ShapedOpen Tryd.prog) :
    Calls Tryd.prog 6 #[.int .i64 a0, .string a1, .bool a2] W fun en w' => en = .returned (.bool true) ∧ Below W.heap.size W w' := by
  obtain ⟨t, rfl, ht⟩ := strB_of a1
  have hm := MaxI.of_shape hsh
  cases a2
  · exact (back_false W a0 t (by omega) hm).mono fun _ _ ⟨he, hk⟩ => ⟨he, hk.below⟩
  · exact (back_true W a0 t (by omega) hm).mono fun _ _ ⟨he, hk⟩ => ⟨he, hk.below⟩
end Go.Proofs.YtncoappagcameaaDoor
