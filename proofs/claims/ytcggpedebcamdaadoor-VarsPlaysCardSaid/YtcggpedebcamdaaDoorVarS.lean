/- Variables: the head of the laws; a text without signs. -/
import Derived.Test.YtcggpedebcamdaaDoorVarV
set_option linter.unusedVariables false
set_option linter.unusedSimpArgs false
namespace Go.Proofs.YtcggpedebcamdaaDoor
open Go.RowKit Go.Shelf Go.Lib

theorem set_at (w : World) (p r : Nat) (m : VarL) (k v : List UInt8) (K V : ByteArray) (h : VarsR w p r m) (hK : strB k = K) (hV : strB v = V) (e : Int × VarL) (he : setL m k v = e) :
    Calls Tryd.prog 12 #[.pointer (some ⟨p, 0, none⟩), .string K, .string V] w fun en w' => en = .returned (.int .i64 e.1) ∧ VarsR w' p r e.2 ∧ Kept w w' (fun b => b = r) ∧ w'.heap.size = w.heap.size := by
  subst hK hV
  exact set_calls w p r m k v h e he
theorem get_at (w : World) (p r : Nat) (m : VarL) (k : List UInt8) (K : ByteArray) (h : VarsR w p r m) (hK : strB k = K) (e : Option (List UInt8)) (he : findV m k = e) :
    Calls Tryd.prog 13 #[.pointer (some ⟨p, 0, none⟩), .string K] w fun en w' => en = .returned (.tuple #[.string (strB (e.getD [])), .bool e.isSome]) ∧ w' = w := by
  subst hK he
  exact get_calls w p r m k h
theorem expand_at (w : World) (p r : Nat) (m : VarL) (t : List UInt8) (T : ByteArray) (h : VarsR w p r m) (hT : strB t = T) (hm : ∀ x ∈ m, x.2.length ≤ 1000) (hl : t.length ≤ 1099511) (hmx : MaxI w) (e : Option (List UInt8)) (he : expandL (findV m) t = e) :
    Calls Tryd.prog 11 #[.pointer (some ⟨p, 0, none⟩), .string T] w fun en w' => en = .returned (.tuple #[.string (strB (e.getD [])), .bool e.isSome]) ∧ Kept w w' NoB := by
  subst hT
  exact expand_calls w p r m t h hm hl hmx e he
set_option maxRecDepth 100000 in
theorem short_calls (w : World) (s : List UInt8) (n : Nat) (hn : n ≤ 1000000) (N : Int) (hN : N = (n : Int)) (t : List UInt8) (ht : s.take n = t) :
    Calls Tryd.prog 9 #[.string (strB s), .int .i64 N] w fun en w' => en = .returned (.string (strB t)) ∧ w' = w := by
  subst hN
  by_cases h : n < s.length
  · have h1 : (n : Int) < (s.length : Int) := by omega
    have h2 : n ≤ s.length := by omega
    have he := strB_cut s 0 n
    rw [List.drop_zero, Nat.sub_zero, ht] at he
    have HT := Lib.hid ht
    clear ht
    go_enter Tryd.func9, Tryd.ntmps9
    go_wp2_with fail
    go_ret
    exact ⟨rfl, rfl⟩
  · have h1 : ¬ (n : Int) < (s.length : Int) := by omega
    have ht' : s = t := by rw [← ht, List.take_of_length_le (by omega)]
    subst ht'
    clear ht
    go_enter Tryd.func9, Tryd.ntmps9
    go_wp2_with fail
    go_ret
    exact ⟨rfl, rfl⟩
theorem eqB (x y : List UInt8) (Y : ByteArray) (hY : strB y = Y) (h : x = y) : (strB x == Y) = true := by
  subst hY h
  exact (Go.MapKept.bytes_beq _ _).2 rfl
set_option maxHeartbeats 1000000 in
set_option maxRecDepth 100000 in
theorem shown_calls (w : World) (hm : MaxI w) : Calls Tryd.prog 8 #[] w fun en w' => en = .returned (.bool true) ∧ Kept w w' NoB := by
  go_enter Tryd.func8, Tryd.ntmps8
  go_wp2_with fail
  refine (new_calls w).mono ?_
  rintro en w1 ⟨rfl, h1, hk1⟩
  have H1 := Lib.hid h1
  have HK1 := Lib.hid hk1
  have hs1 := hk1.size
  clear h1 hk1
  go_wp2_with fail
  refine (set_at w1 _ _ [] [97] [120] _ _ H1.out rfl rfl (0, [([97], [120])]) (by decide)).mono ?_
  rintro en w2 ⟨rfl, h2, hk2, hs2⟩
  have H2 := Lib.hid h2
  have HK2 := Lib.hid (HK1.out.trans hk2 fun b hb => .inr (by omega))
  clear h2 hk2 hs2
  go_wp2_with fail
  refine (expand_at w2 _ _ _ [36, 97, 46, 36, 36] _ H2.out rfl (by decide) (by decide) (hm.kept0 HK2.out) (some [120, 46, 36]) (by decide)).mono ?_
  rintro en w3 ⟨rfl, hk3⟩
  have HK3 := Lib.hid (HK2.out.trans' hk3)
  have e1 := eqB [120, 46, 36] [120, 46, 36] ⟨#[120, 46, 36]⟩ rfl rfl
  clear hk3
  simp only [Option.getD_some, Option.isSome_some]
  go_wp2_with fail
  go_ret
  exact ⟨rfl, HK3.out⟩
theorem take_one {t : List UInt8} {i : Nat} (h : i < t.length) : (t.drop i).take 1 = [t[i]] := by
  rw [List.drop_eq_getElem_cons h]
  rfl
theorem bare_snoc {t : List UInt8} {i : Nat} (h : i < t.length) : bareL (t.take (i + 1)) = bareL (t.take i) ++ if t[i] = 36 then [] else [t[i]] := by
  rw [List.take_succ_eq_append_getElem h]
  unfold bareL
  rw [List.filter_append]
  congr 1
  by_cases h36 : t[i] = 36
  · simp [h36]
  · simp [h36]
theorem twice_snoc {t : List UInt8} {i : Nat} (h : i < t.length) : twiceL (t.take (i + 1)) = twiceL (t.take i) ++ if t[i] = 36 then [36, 36] else [t[i]] := by
  rw [List.take_succ_eq_append_getElem h]
  unfold twiceL
  rw [List.flatMap_append]
  simp
theorem bare_len (t : List UInt8) : (bareL t).length ≤ t.length := List.length_filter_le _ _
theorem twice_len (t : List UInt8) : (twiceL t).length ≤ 2 * t.length := by
  induction t with
  | nil => simp [twiceL]
  | cons c t ih =>
    have e : twiceL (c :: t) = (if c = 36 then [36, 36] else [c]) ++ twiceL t := by simp [twiceL]
    rw [e, List.length_append, List.length_cons]
    split <;> simp <;> omega
end Go.Proofs.YtcggpedebcamdaaDoor
